/- A rune read: the reference's way. -/
import Derived.Test.YtdmhmelmoobekaaG3
import Derived.RegionTactic
namespace Go.Proofs.Ytdmhmelmoobekaa
open Go.RowKit
set_option linter.unusedVariables false
set_option maxRecDepth 100000

def vS (xs : List UInt8) (k t : Nat) : Int := if t = 1 then v1 xs k else if t = 2 then v2 xs k else v3 xs k
theorem rrR_found {xs : List UInt8} {k s : Nat} (hk : k < xs.length) (h1 : 1 ≤ s) (h2 : s ≤ 3) (hn : ∀ t, 1 ≤ t → t < s → ¬ rrOk xs k t (vS xs k t)) (ho : rrOk xs k s (vS xs k s)) : rrR xs k = (vS xs k s, (s : Int)) := by
  rw [rrR, if_neg (by omega), Int.toNat_natCast]
  by_cases e1 : s = 1
  · subst e1
    exact if_pos ho
  · have n1 : ¬ rrOk xs k 1 (v1 xs k) := hn 1 (by omega) (by omega)
    rw [if_neg n1]
    by_cases e2 : s = 2
    · subst e2
      exact if_pos ho
    · have n2 : ¬ rrOk xs k 2 (v2 xs k) := hn 2 (by omega) (by omega)
      rw [if_neg n2]
      obtain rfl : s = 3 := by omega
      exact if_pos ho
theorem rrR_none {xs : List UInt8} {k : Nat} (hk : k < xs.length) (hn : ∀ t, 1 ≤ t → t < 4 → ¬ rrOk xs k t (vS xs k t)) : rrR xs k = (0, 0) := by
  have n1 : ¬ rrOk xs k 1 (v1 xs k) := hn 1 (by omega) (by omega)
  have n2 : ¬ rrOk xs k 2 (v2 xs k) := hn 2 (by omega) (by omega)
  have n3 : ¬ rrOk xs k 3 (v3 xs k) := hn 3 (by omega) (by omega)
  rw [rrR, if_neg (by omega), Int.toNat_natCast, if_neg n1, if_neg n2, if_neg n3]
set_option maxHeartbeats 8000000 in
theorem runeRead_spec (A : Option Addr) (c : Nat) (xs : List UInt8) (z : Int) (w : World) (ha : By w A xs) (hc : xs.length ≤ c) (h1 : xs.length ≤ 137438953472) (hz1 : -9223372036854775808 ≤ z) (hz2 : z ≤ 9223372036854775807) :
    Calls Try.prog 115 #[.slice A xs.length c, .int .i64 z] w (RrPost w (rrR xs z)) := by
  by_cases hz : z < 0
  · have HR : Hid (rrR xs z = (0, 0)) := if_pos (.inl hz)
    go_enter Try.func115, Try.ntmps115
    go_wp2_with fail
    go_ret2
    exact rr_ret HR.out (Below.refl _ _)
  by_cases hz3 : (xs.length : Int) ≤ z
  · have HR : Hid (rrR xs z = (0, 0)) := if_pos (.inr hz3)
    go_enter Try.func115, Try.ntmps115
    go_wp2_with fail
    go_ret2
    exact rr_ret HR.out (Below.refl _ _)
  obtain ⟨k, rfl⟩ := Int.eq_ofNat_of_zero_le (show 0 ≤ z by omega)
  have hk : k < xs.length := by omega
  obtain ⟨x, hx⟩ := get_ex hk
  have hbt := bt_get hx
  obtain ⟨b, o, rfl, hcell⟩ := ha.pos (by omega)
  have hcx := hcell k _ hx
  have h256 := u8_lt x
  clear hx
  have hk' : (k : Int) < xs.length := by omega
  have HC : Hid (∀ i y, xs[i]? = some y → w.cell? ⟨b, o + i, none⟩ = some (B y)) := hcell
  clear hcell
  go_enter Try.func115, Try.ntmps115
  go_wp2_with fail
  go_loopw [6] (fun sv wr => ∃ s : Nat, 1 ≤ s ∧ s ≤ 4 ∧ sv = .int .i64 s ∧ Hid (∀ t, 1 ≤ t → t < s → ¬ rrOk xs k t (vS xs k t)) ∧ Below w.heap.size w wr) (fun sv _ => 4 - (intOf sv).toNat)
  case atStart => exact ⟨1, by omega, by omega, rfl, fun t h1 h2 => by omega, Below.refl _ _⟩
  case round =>
    obtain ⟨s, hs1, hs2, rfl, hno, hb⟩ := hrel
    have hcxr := (hb.cell (World.block_lt_of_cell? w _ hcx)).trans hcx
    have hcell : ∀ i y, xs[i]? = some y → wr.cell? ⟨b, o + i, none⟩ = some (B y) := fun i y hi => (hb.cell (World.block_lt_of_cell? w _ (HC.out i y hi))).trans (HC.out i y hi)
    have zb := hb.size
    by_cases e1 : s = 1
    · subst e1
      by_cases hlen : (1 : Int) ≤ xs.length - k
      · obtain ⟨A6, c6, u6, hu6, hc6, hby6, hrun6⟩ := slice_lh_run (some ⟨b, o, none⟩) c k (k + 1) xs .i64 .i64 (by omega) (by omega) hc
        have hwr : IntKind.i64.wrap ((k : Int) + 1) = (k : Int) + 1 := by rw [IntKind.wrap_i64]; omega
        have e1 : ((k + 1 : Nat) : Int) = (k : Int) + 1 := by omega
        rw [e1] at hrun6
        have E6 : Hid (u6 = (xs.drop k).take 1) := by show _ = _; rw [hu6.out]; congr 1; omega
        have hlenN : k + 1 ≤ xs.length := by omega
        have l6 : u6.length = 1 := by rw [E6.out]; simp; omega
        have hwx : IntKind.i64.wrap (x.toNat : Int) = (x.toNat : Int) := by rw [IntKind.wrap_i64]; omega
        have hwx2 : IntKind.i64.wrap ((x.toNat : Int) - 0) = (x.toNat : Int) - 0 := by rw [IntKind.wrap_i64]; omega
        clear e1
        have HB : Hid ((x.toNat : Int) = vS xs k 1) := by show _ = _; rw [show vS xs k 1 = v1 xs k from rfl, v1, hbt]
        have hbX : Below w.heap.size w (wr.alloc (.cells #[.int .i64 0, .int .i64 0, .int .i64 192, .int .i64 224] 3)).drew := Below.drew (hb.alloc zb _)
        have hcxA : (wr.alloc (.cells #[.int .i64 0, .int .i64 0, .int .i64 192, .int .i64 224] 3)).cell? ⟨b, o + k, none⟩ = some (B x) := ((hb.alloc zb _).cell (World.block_lt_of_cell? w _ hcx)).trans hcx
        by_cases hok : rb (vS xs k 1) = (xs.drop k).take 1
        · go_wp2_with fail
          go_region
          have hZ := hbX.size
          have haX := ha.below hbX
          clear hcxr hcell hcxA
          generalize (wr.alloc (.cells #[.int .i64 0, .int .i64 0, .int .i64 192, .int .i64 224] 3)).drew = W2 at hbX hZ haX ⊢
          go_wp2_with fail
          refine wp_loop_rounds 1 ?_
          rw [rounds_succ]
          go_wp2_with fail
          refine (runeBytes_spec _ _).mono ?_
          rintro e w3 ⟨A3, c3, u3, hu3, rfl, ho3, hb3⟩
          rw [HB.out] at hu3
          have hbw3 := hbX.trans (hb3.mono hZ)
          have hcv3 : ∀ j, (convert 45 9 (.slice A3 u3.length c3)).run Try.prog (w3.drewN j) = .ok (.string (bstr u3)) (w3.drewN j) := fun j => conv_by (ho3.by_.drewN j)
          have hcv6 : ∀ j, (convert 45 9 (.slice A6 u6.length c6)).run Try.prog (w3.drewN j) = .ok (.string (bstr u6)) (w3.drewN j) := fun j => conv_by ((hby6 w3 (haX.below hb3)).drewN j)
          have e3 : u3 = u6 := by rw [hu3.out, E6.out, hok]
          have hle : ((u3.length : Int) == 1) = true := by rw [e3, l6]; rfl
          have hst : ((bstr u3).toList == (bstr u6).toList) = true := by rw [e3]; simp
          have HR : Hid (rrR xs k = (vS xs k 1, 1)) := rrR_found hk (by omega) (by omega) hno.out ⟨hlenN, hok⟩
          clear hok e3 l6
          go_wp2_with fail
          go_quiet (fail)
          go_wp2_with fail
          go_ret2
          exact rr_ret (by rw [HR.out, HB.out]) (below_drewN hbw3 _)
        · have hno2 : Hid (∀ t, 1 ≤ t → t < 2 → ¬ rrOk xs k t (vS xs k t)) := by
            intro t t1 t2 h
            by_cases ht : t < 1
            · exact hno.out t t1 ht h
            · obtain rfl : t = 1 := by omega
              exact hok h.2
          by_cases hl : (rb (vS xs k 1)).length = 1
          · go_wp2_with fail
            go_region
            have hZ := hbX.size
            have haX := ha.below hbX
            clear hcxr hcell hcxA
            generalize (wr.alloc (.cells #[.int .i64 0, .int .i64 0, .int .i64 192, .int .i64 224] 3)).drew = W2 at hbX hZ haX ⊢
            go_wp2_with fail
            refine wp_loop_rounds 1 ?_
            rw [rounds_succ]
            go_wp2_with fail
            refine (runeBytes_spec _ _).mono ?_
            rintro e w3 ⟨A3, c3, u3, hu3, rfl, ho3, hb3⟩
            rw [HB.out] at hu3
            have hbw3 := hbX.trans (hb3.mono hZ)
            have hcv3 : ∀ j, (convert 45 9 (.slice A3 u3.length c3)).run Try.prog (w3.drewN j) = .ok (.string (bstr u3)) (w3.drewN j) := fun j => conv_by (ho3.by_.drewN j)
            have hcv6 : ∀ j, (convert 45 9 (.slice A6 u6.length c6)).run Try.prog (w3.drewN j) = .ok (.string (bstr u6)) (w3.drewN j) := fun j => conv_by ((hby6 w3 (haX.below hb3)).drewN j)
            have hle : ((u3.length : Int) == 1) = true := by rw [hu3.out]; simp; omega
            have hst : ((bstr u3).toList == (bstr u6).toList) = false := by rw [bstr_toList, bstr_toList, hu3.out, E6.out]; exact beq_eq_false_iff_ne.2 hok
            clear hok l6
            go_wp2_with fail
            go_quiet (fail)
            go_wp2_with fail
            go_roundw
            case rel => exact ⟨2, by omega, by omega, by go_num, hno2, below_drewN hbw3 _⟩
            case measure => simp [intOf]
          · go_wp2_with fail
            go_region
            have hZ := hbX.size
            have haX := ha.below hbX
            clear hcxr hcell hcxA
            generalize (wr.alloc (.cells #[.int .i64 0, .int .i64 0, .int .i64 192, .int .i64 224] 3)).drew = W2 at hbX hZ haX ⊢
            go_wp2_with fail
            refine wp_loop_rounds 1 ?_
            rw [rounds_succ]
            go_wp2_with fail
            refine (runeBytes_spec _ _).mono ?_
            rintro e w3 ⟨A3, c3, u3, hu3, rfl, ho3, hb3⟩
            rw [HB.out] at hu3
            have hbw3 := hbX.trans (hb3.mono hZ)
            have hcv3 : ∀ j, (convert 45 9 (.slice A3 u3.length c3)).run Try.prog (w3.drewN j) = .ok (.string (bstr u3)) (w3.drewN j) := fun j => conv_by (ho3.by_.drewN j)
            have hcv6 : ∀ j, (convert 45 9 (.slice A6 u6.length c6)).run Try.prog (w3.drewN j) = .ok (.string (bstr u6)) (w3.drewN j) := fun j => conv_by ((hby6 w3 (haX.below hb3)).drewN j)
            have hle : ((u3.length : Int) == 1) = false := by rw [hu3.out]; simp; omega
            clear l6
            go_wp2_with fail
            go_quiet (fail)
            go_wp2_with fail
            go_roundw
            case rel => exact ⟨2, by omega, by omega, by go_num, hno2, below_drewN hbw3 _⟩
            case measure => simp [intOf]
      · have HR : Hid (rrR xs k = (0, 0)) := rrR_none hk (fun t t1 t2 h => by
          by_cases ht : t < 1
          · exact hno.out t t1 ht h
          · have := h.1
            omega)
        go_wp2_with fail
        go_ret2
        exact rr_ret HR.out hb
    by_cases e2 : s = 2
    · subst e2
      by_cases hlen : (2 : Int) ≤ xs.length - k
      · obtain ⟨A6, c6, u6, hu6, hc6, hby6, hrun6⟩ := slice_lh_run (some ⟨b, o, none⟩) c k (k + 2) xs .i64 .i64 (by omega) (by omega) hc
        have hwr : IntKind.i64.wrap ((k : Int) + 2) = (k : Int) + 2 := by rw [IntKind.wrap_i64]; omega
        have e1 : ((k + 2 : Nat) : Int) = (k : Int) + 2 := by omega
        rw [e1] at hrun6
        have E6 : Hid (u6 = (xs.drop k).take 2) := by show _ = _; rw [hu6.out]; congr 1; omega
        have hlenN : k + 2 ≤ xs.length := by omega
        have l6 : u6.length = 2 := by rw [E6.out]; simp; omega
        have hwx : IntKind.i64.wrap (x.toNat : Int) = (x.toNat : Int) := by rw [IntKind.wrap_i64]; omega
        have hwx2 : IntKind.i64.wrap ((x.toNat : Int) - 192) = (x.toNat : Int) - 192 := by rw [IntKind.wrap_i64]; omega
        clear e1
        obtain ⟨y, hy⟩ := get_ex (xs := xs) (k := k + 1) (by omega)
        have hby := bt_get hy
        have h256y := u8_lt y
        have hly : (k : Int) + 1 < xs.length := by omega
        have HB : Hid (((x.toNat : Int) - 192) * 64 + (y.toNat : Int) - 128 = vS xs k 2) := by show _ = _; rw [show vS xs k 2 = v2 xs k from rfl, v2, hbt, hby]
        have hbX : Below w.heap.size w (wr.alloc (.cells #[.int .i64 0, .int .i64 0, .int .i64 192, .int .i64 224] 3)).drew := Below.drew (hb.alloc zb _)
        have hcxA : (wr.alloc (.cells #[.int .i64 0, .int .i64 0, .int .i64 192, .int .i64 224] 3)).cell? ⟨b, o + k, none⟩ = some (B x) := ((hb.alloc zb _).cell (World.block_lt_of_cell? w _ hcx)).trans hcx
        by_cases hok : rb (vS xs k 2) = (xs.drop k).take 2
        · go_wp2_with fail
          go_region
          have hZ := hbX.size
          have hcy := (hbX.cell (World.block_lt_of_cell? w _ (HC.out (k + 1) _ hy))).trans (HC.out (k + 1) _ hy)
          have haX := ha.below hbX
          clear hy
          clear hcxr hcell hcxA
          generalize (wr.alloc (.cells #[.int .i64 0, .int .i64 0, .int .i64 192, .int .i64 224] 3)).drew = W2 at hbX hZ haX hcy ⊢
          go_wp2_with fail
          refine wp_loop_rounds 2 ?_
          rw [rounds_succ]
          go_wp2_with fail
          rw [rounds_succ]
          go_wp2_with fail
          refine (runeBytes_spec _ _).mono ?_
          rintro e w3 ⟨A3, c3, u3, hu3, rfl, ho3, hb3⟩
          rw [HB.out] at hu3
          have hbw3 := hbX.trans (hb3.mono hZ)
          have hcv3 : ∀ j, (convert 45 9 (.slice A3 u3.length c3)).run Try.prog (w3.drewN j) = .ok (.string (bstr u3)) (w3.drewN j) := fun j => conv_by (ho3.by_.drewN j)
          have hcv6 : ∀ j, (convert 45 9 (.slice A6 u6.length c6)).run Try.prog (w3.drewN j) = .ok (.string (bstr u6)) (w3.drewN j) := fun j => conv_by ((hby6 w3 (haX.below hb3)).drewN j)
          have e3 : u3 = u6 := by rw [hu3.out, E6.out, hok]
          have hle : ((u3.length : Int) == 2) = true := by rw [e3, l6]; rfl
          have hst : ((bstr u3).toList == (bstr u6).toList) = true := by rw [e3]; simp
          have HR : Hid (rrR xs k = (vS xs k 2, 2)) := rrR_found hk (by omega) (by omega) hno.out ⟨hlenN, hok⟩
          clear hok e3 l6
          go_wp2_with fail
          go_quiet (fail)
          go_wp2_with fail
          go_ret2
          exact rr_ret (by rw [HR.out, HB.out]) (below_drewN hbw3 _)
        · have hno2 : Hid (∀ t, 1 ≤ t → t < 3 → ¬ rrOk xs k t (vS xs k t)) := by
            intro t t1 t2 h
            by_cases ht : t < 2
            · exact hno.out t t1 ht h
            · obtain rfl : t = 2 := by omega
              exact hok h.2
          by_cases hl : (rb (vS xs k 2)).length = 2
          · go_wp2_with fail
            go_region
            have hZ := hbX.size
            have hcy := (hbX.cell (World.block_lt_of_cell? w _ (HC.out (k + 1) _ hy))).trans (HC.out (k + 1) _ hy)
            have haX := ha.below hbX
            clear hy
            clear hcxr hcell hcxA
            generalize (wr.alloc (.cells #[.int .i64 0, .int .i64 0, .int .i64 192, .int .i64 224] 3)).drew = W2 at hbX hZ haX hcy ⊢
            go_wp2_with fail
            refine wp_loop_rounds 2 ?_
            rw [rounds_succ]
            go_wp2_with fail
            rw [rounds_succ]
            go_wp2_with fail
            refine (runeBytes_spec _ _).mono ?_
            rintro e w3 ⟨A3, c3, u3, hu3, rfl, ho3, hb3⟩
            rw [HB.out] at hu3
            have hbw3 := hbX.trans (hb3.mono hZ)
            have hcv3 : ∀ j, (convert 45 9 (.slice A3 u3.length c3)).run Try.prog (w3.drewN j) = .ok (.string (bstr u3)) (w3.drewN j) := fun j => conv_by (ho3.by_.drewN j)
            have hcv6 : ∀ j, (convert 45 9 (.slice A6 u6.length c6)).run Try.prog (w3.drewN j) = .ok (.string (bstr u6)) (w3.drewN j) := fun j => conv_by ((hby6 w3 (haX.below hb3)).drewN j)
            have hle : ((u3.length : Int) == 2) = true := by rw [hu3.out]; simp; omega
            have hst : ((bstr u3).toList == (bstr u6).toList) = false := by rw [bstr_toList, bstr_toList, hu3.out, E6.out]; exact beq_eq_false_iff_ne.2 hok
            clear hok l6
            go_wp2_with fail
            go_quiet (fail)
            go_wp2_with fail
            go_roundw
            case rel => exact ⟨3, by omega, by omega, by go_num, hno2, below_drewN hbw3 _⟩
            case measure => simp [intOf]
          · go_wp2_with fail
            go_region
            have hZ := hbX.size
            have hcy := (hbX.cell (World.block_lt_of_cell? w _ (HC.out (k + 1) _ hy))).trans (HC.out (k + 1) _ hy)
            have haX := ha.below hbX
            clear hy
            clear hcxr hcell hcxA
            generalize (wr.alloc (.cells #[.int .i64 0, .int .i64 0, .int .i64 192, .int .i64 224] 3)).drew = W2 at hbX hZ haX hcy ⊢
            go_wp2_with fail
            refine wp_loop_rounds 2 ?_
            rw [rounds_succ]
            go_wp2_with fail
            rw [rounds_succ]
            go_wp2_with fail
            refine (runeBytes_spec _ _).mono ?_
            rintro e w3 ⟨A3, c3, u3, hu3, rfl, ho3, hb3⟩
            rw [HB.out] at hu3
            have hbw3 := hbX.trans (hb3.mono hZ)
            have hcv3 : ∀ j, (convert 45 9 (.slice A3 u3.length c3)).run Try.prog (w3.drewN j) = .ok (.string (bstr u3)) (w3.drewN j) := fun j => conv_by (ho3.by_.drewN j)
            have hcv6 : ∀ j, (convert 45 9 (.slice A6 u6.length c6)).run Try.prog (w3.drewN j) = .ok (.string (bstr u6)) (w3.drewN j) := fun j => conv_by ((hby6 w3 (haX.below hb3)).drewN j)
            have hle : ((u3.length : Int) == 2) = false := by rw [hu3.out]; simp; omega
            clear l6
            go_wp2_with fail
            go_quiet (fail)
            go_wp2_with fail
            go_roundw
            case rel => exact ⟨3, by omega, by omega, by go_num, hno2, below_drewN hbw3 _⟩
            case measure => simp [intOf]
      · have HR : Hid (rrR xs k = (0, 0)) := rrR_none hk (fun t t1 t2 h => by
          by_cases ht : t < 2
          · exact hno.out t t1 ht h
          · have := h.1
            omega)
        go_wp2_with fail
        go_ret2
        exact rr_ret HR.out hb
    by_cases e3 : s = 3
    · subst e3
      by_cases hlen : (3 : Int) ≤ xs.length - k
      · obtain ⟨A6, c6, u6, hu6, hc6, hby6, hrun6⟩ := slice_lh_run (some ⟨b, o, none⟩) c k (k + 3) xs .i64 .i64 (by omega) (by omega) hc
        have hwr : IntKind.i64.wrap ((k : Int) + 3) = (k : Int) + 3 := by rw [IntKind.wrap_i64]; omega
        have e1 : ((k + 3 : Nat) : Int) = (k : Int) + 3 := by omega
        rw [e1] at hrun6
        have E6 : Hid (u6 = (xs.drop k).take 3) := by show _ = _; rw [hu6.out]; congr 1; omega
        have hlenN : k + 3 ≤ xs.length := by omega
        have l6 : u6.length = 3 := by rw [E6.out]; simp; omega
        have hwx : IntKind.i64.wrap (x.toNat : Int) = (x.toNat : Int) := by rw [IntKind.wrap_i64]; omega
        have hwx2 : IntKind.i64.wrap ((x.toNat : Int) - 224) = (x.toNat : Int) - 224 := by rw [IntKind.wrap_i64]; omega
        clear e1
        obtain ⟨y, hy⟩ := get_ex (xs := xs) (k := k + 1) (by omega)
        have hby := bt_get hy
        have h256y := u8_lt y
        have hly : (k : Int) + 1 < xs.length := by omega
        obtain ⟨z, hz⟩ := get_ex (xs := xs) (k := k + 2) (by omega)
        have hbz := bt_get hz
        have h256z := u8_lt z
        have hlz : (k : Int) + 2 < xs.length := by omega
        have HB : Hid ((((x.toNat : Int) - 224) * 64 + (y.toNat : Int) - 128) * 64 + (z.toNat : Int) - 128 = vS xs k 3) := by show _ = _; rw [show vS xs k 3 = v3 xs k from rfl, v3, hbt, hby, hbz]
        have hbX : Below w.heap.size w (wr.alloc (.cells #[.int .i64 0, .int .i64 0, .int .i64 192, .int .i64 224] 3)).drew := Below.drew (hb.alloc zb _)
        have hcxA : (wr.alloc (.cells #[.int .i64 0, .int .i64 0, .int .i64 192, .int .i64 224] 3)).cell? ⟨b, o + k, none⟩ = some (B x) := ((hb.alloc zb _).cell (World.block_lt_of_cell? w _ hcx)).trans hcx
        by_cases hok : rb (vS xs k 3) = (xs.drop k).take 3
        · go_wp2_with fail
          go_region
          have hZ := hbX.size
          have hcy := (hbX.cell (World.block_lt_of_cell? w _ (HC.out (k + 1) _ hy))).trans (HC.out (k + 1) _ hy)
          have hcz := (hbX.cell (World.block_lt_of_cell? w _ (HC.out (k + 2) _ hz))).trans (HC.out (k + 2) _ hz)
          have haX := ha.below hbX
          clear hy
          clear hz
          clear hcxr hcell hcxA
          generalize (wr.alloc (.cells #[.int .i64 0, .int .i64 0, .int .i64 192, .int .i64 224] 3)).drew = W2 at hbX hZ haX hcy hcz ⊢
          go_wp2_with fail
          refine wp_loop_rounds 3 ?_
          rw [rounds_succ]
          go_wp2_with fail
          rw [rounds_succ]
          go_wp2_with fail
          rw [rounds_succ]
          go_wp2_with fail
          refine (runeBytes_spec _ _).mono ?_
          rintro e w3 ⟨A3, c3, u3, hu3, rfl, ho3, hb3⟩
          rw [HB.out] at hu3
          have hbw3 := hbX.trans (hb3.mono hZ)
          have hcv3 : ∀ j, (convert 45 9 (.slice A3 u3.length c3)).run Try.prog (w3.drewN j) = .ok (.string (bstr u3)) (w3.drewN j) := fun j => conv_by (ho3.by_.drewN j)
          have hcv6 : ∀ j, (convert 45 9 (.slice A6 u6.length c6)).run Try.prog (w3.drewN j) = .ok (.string (bstr u6)) (w3.drewN j) := fun j => conv_by ((hby6 w3 (haX.below hb3)).drewN j)
          have e3 : u3 = u6 := by rw [hu3.out, E6.out, hok]
          have hle : ((u3.length : Int) == 3) = true := by rw [e3, l6]; rfl
          have hst : ((bstr u3).toList == (bstr u6).toList) = true := by rw [e3]; simp
          have HR : Hid (rrR xs k = (vS xs k 3, 3)) := rrR_found hk (by omega) (by omega) hno.out ⟨hlenN, hok⟩
          clear hok e3 l6
          go_wp2_with fail
          go_quiet (fail)
          go_wp2_with fail
          go_ret2
          exact rr_ret (by rw [HR.out, HB.out]) (below_drewN hbw3 _)
        · have hno2 : Hid (∀ t, 1 ≤ t → t < 4 → ¬ rrOk xs k t (vS xs k t)) := by
            intro t t1 t2 h
            by_cases ht : t < 3
            · exact hno.out t t1 ht h
            · obtain rfl : t = 3 := by omega
              exact hok h.2
          by_cases hl : (rb (vS xs k 3)).length = 3
          · go_wp2_with fail
            go_region
            have hZ := hbX.size
            have hcy := (hbX.cell (World.block_lt_of_cell? w _ (HC.out (k + 1) _ hy))).trans (HC.out (k + 1) _ hy)
            have hcz := (hbX.cell (World.block_lt_of_cell? w _ (HC.out (k + 2) _ hz))).trans (HC.out (k + 2) _ hz)
            have haX := ha.below hbX
            clear hy
            clear hz
            clear hcxr hcell hcxA
            generalize (wr.alloc (.cells #[.int .i64 0, .int .i64 0, .int .i64 192, .int .i64 224] 3)).drew = W2 at hbX hZ haX hcy hcz ⊢
            go_wp2_with fail
            refine wp_loop_rounds 3 ?_
            rw [rounds_succ]
            go_wp2_with fail
            rw [rounds_succ]
            go_wp2_with fail
            rw [rounds_succ]
            go_wp2_with fail
            refine (runeBytes_spec _ _).mono ?_
            rintro e w3 ⟨A3, c3, u3, hu3, rfl, ho3, hb3⟩
            rw [HB.out] at hu3
            have hbw3 := hbX.trans (hb3.mono hZ)
            have hcv3 : ∀ j, (convert 45 9 (.slice A3 u3.length c3)).run Try.prog (w3.drewN j) = .ok (.string (bstr u3)) (w3.drewN j) := fun j => conv_by (ho3.by_.drewN j)
            have hcv6 : ∀ j, (convert 45 9 (.slice A6 u6.length c6)).run Try.prog (w3.drewN j) = .ok (.string (bstr u6)) (w3.drewN j) := fun j => conv_by ((hby6 w3 (haX.below hb3)).drewN j)
            have hle : ((u3.length : Int) == 3) = true := by rw [hu3.out]; simp; omega
            have hst : ((bstr u3).toList == (bstr u6).toList) = false := by rw [bstr_toList, bstr_toList, hu3.out, E6.out]; exact beq_eq_false_iff_ne.2 hok
            clear hok l6
            go_wp2_with fail
            go_quiet (fail)
            go_wp2_with fail
            go_roundw
            case rel => exact ⟨4, by omega, by omega, by go_num, hno2, below_drewN hbw3 _⟩
            case measure => simp [intOf]
          · go_wp2_with fail
            go_region
            have hZ := hbX.size
            have hcy := (hbX.cell (World.block_lt_of_cell? w _ (HC.out (k + 1) _ hy))).trans (HC.out (k + 1) _ hy)
            have hcz := (hbX.cell (World.block_lt_of_cell? w _ (HC.out (k + 2) _ hz))).trans (HC.out (k + 2) _ hz)
            have haX := ha.below hbX
            clear hy
            clear hz
            clear hcxr hcell hcxA
            generalize (wr.alloc (.cells #[.int .i64 0, .int .i64 0, .int .i64 192, .int .i64 224] 3)).drew = W2 at hbX hZ haX hcy hcz ⊢
            go_wp2_with fail
            refine wp_loop_rounds 3 ?_
            rw [rounds_succ]
            go_wp2_with fail
            rw [rounds_succ]
            go_wp2_with fail
            rw [rounds_succ]
            go_wp2_with fail
            refine (runeBytes_spec _ _).mono ?_
            rintro e w3 ⟨A3, c3, u3, hu3, rfl, ho3, hb3⟩
            rw [HB.out] at hu3
            have hbw3 := hbX.trans (hb3.mono hZ)
            have hcv3 : ∀ j, (convert 45 9 (.slice A3 u3.length c3)).run Try.prog (w3.drewN j) = .ok (.string (bstr u3)) (w3.drewN j) := fun j => conv_by (ho3.by_.drewN j)
            have hcv6 : ∀ j, (convert 45 9 (.slice A6 u6.length c6)).run Try.prog (w3.drewN j) = .ok (.string (bstr u6)) (w3.drewN j) := fun j => conv_by ((hby6 w3 (haX.below hb3)).drewN j)
            have hle : ((u3.length : Int) == 3) = false := by rw [hu3.out]; simp; omega
            clear l6
            go_wp2_with fail
            go_quiet (fail)
            go_wp2_with fail
            go_roundw
            case rel => exact ⟨4, by omega, by omega, by go_num, hno2, below_drewN hbw3 _⟩
            case measure => simp [intOf]
      · have HR : Hid (rrR xs k = (0, 0)) := rrR_none hk (fun t t1 t2 h => by
          by_cases ht : t < 3
          · exact hno.out t t1 ht h
          · have := h.1
            omega)
        go_wp2_with fail
        go_ret2
        exact rr_ret HR.out hb
    obtain rfl : s = 4 := by omega
    have HR : Hid (rrR xs k = (0, 0)) := rrR_none hk hno.out
    go_wp2_with fail
    go_ret2
    exact rr_ret HR.out hb
end Go.Proofs.Ytdmhmelmoobekaa
