/- A new screen: the program's way. -/
import Derived.Test.YtnilgcahggmncaaWa
import Derived.Test.YtnilgcahggmncaaN5
import Derived.Deep.RegionWith
namespace Go.Proofs.Ytnilgcahggmncaa
open Go.RowKit
set_option linter.unusedVariables false
set_option maxRecDepth 100000

abbrev at0 : At := (0, 0, false, false, false)
/-- The screen without anything. -/
def sc0 : Sc := ⟨0, 0, 0, 0, 0, 0, false, 0, 0, false, at0, 0, 0, false, false, 0, 0, at0, 0⟩
def cont0 : Cont := ⟨[], [], [], []⟩
abbrev rw0 : Rw := (none, 0, [])
abbrev ti0 : Ti := (none, 0, [])
abbrev tr0 : Tr := (none, 0, [])
abbrev zC : Array Value := #[.int .i64 0, .int .i64 0, .int .i64 0, .int .i64 0, .slice none 0 0, .int .i64 0, .int .i64 0, .slice none 0 0, .bool false, .int .i64 0, .int .i64 0, .bool false, .int .i64 0, .int .i64 0, .bool false, .bool false, .bool false, .int .i64 0, .int .i64 0, .bool false, .bool false, .int .i64 0, .int .i64 0, .int .i64 0, .int .i64 0, .bool false, .bool false, .bool false, .slice none 0 0, .int .i64 0, .slice none 0 0]
theorem zC_eq : zC = sC sc0 rw0 rw0 ti0 tr0 := rfl
theorem Oi.nil (w : World) (lo : Nat) : Oi w lo none 0 [] := ownsG_nil _ _ _ _
theorem Or.nil (w : World) (lo : Nat) : Or w lo none 0 [] := ownsG_nil _ _ _ _
theorem Og.nil (w : World) (lo : Nat) : Og w lo none 0 [] := ownsG_nil _ _ _ _
theorem So.nil (w : World) (lo : Nat) : So w lo rw0 rw0 ti0 tr0 := by
  refine ⟨Og.nil w lo, Og.nil w lo, Oi.nil w lo, Or.nil w lo, fun e he => by simp at he, ?_⟩
  have h : ∀ b, Sep none b := fun b k hk => by simp at hk
  show [none, none, none, none].Pairwise Sep
  simp [h]
/-- A screen and whether there is one. -/
def Scr2 (w : World) (s : Sc) (c : Cont) (ok : Bool) (e : Ending) (w' : World) : Prop :=
  ∃ (M A : Rw) (T : Ti) (B : Tr), e = .returned (.tuple #[sV s M A T B, .bool ok]) ∧ Hid (Holds M A T B c) ∧ So w' w.heap.size M A T B ∧ Below w.heap.size w w'
def snOk (W H L : Int) : Bool := sizeB W H && withinB L 0 100
def scN (W H L : Int) : Sc := ⟨W, H, W, H, W, H, false, 0, 0, false, at0, 0, H - 1, false, false, 0, 0, at0, L⟩
def contN (W H : Int) : Cont := ⟨List.replicate (W * H).toNat bk, List.replicate (W * H).toNat bk, tabL (tabK W), []⟩
def snS (W H L : Int) : Sc := if snOk W H L = true then scN W H L else sc0
def snC (W H L : Int) : Cont := if snOk W H L = true then contN W H else cont0
theorem nil2 {w w' : World} (hb : Below w.heap.size w w') : Scr2 w sc0 cont0 false (.returned (.tuple #[.agg zC, .bool false])) w' :=
  ⟨rw0, rw0, ti0, tr0, rfl, ⟨rfl, rfl, rfl, rfl⟩, So.nil _ _, hb⟩
theorem sn_no {W H L : Int} (h : ¬ snOk W H L = true) : snS W H L = sc0 ∧ snC W H L = cont0 := ⟨if_neg h, if_neg h⟩
theorem sn_yes {W H L : Int} (h : snOk W H L = true) : snS W H L = scN W H L ∧ snC W H L = contN W H := ⟨if_pos h, if_pos h⟩
theorem results_row2 {fn : Func} {p q : Tmp} {ty : TypeId} (h : fn.results = #[.cell p ty, .tmp q]) (tmps : Array Value) (w : World) (g : Nat) (cs : Array Value)
    (hp : tmps.getD p undef = .pointer (some ⟨g, 0, none⟩)) (hl : (loadVar ty ⟨g, 0, none⟩).run Try.prog w = .ok (.agg cs) w) :
    (results fn tmps).run Try.prog w = .ok (.tuple #[.agg cs, tmps.getD q undef]) w := by
  have hp' : tmps[p]?.getD undef = .pointer (some ⟨g, 0, none⟩) := by simpa using hp
  simp [results, h, hp', asAddr, hl]
theorem load_scr {w : World} {g : Nat} {cs : Array Value} (h : w.heap[g]? = some (.cells cs 49 (0, 0))) (hs : cs.size = 31) : (loadVar 49 ⟨g, 0, none⟩).run Try.prog w = .ok (.agg cs) w :=
  run_loadVar_row w g 49 49 cs (0, 0) _ h Try.underlying49 rfl (by rw [hs]; exact size_scr)
set_option maxHeartbeats 4000000 in
theorem scrNew_impl (W H L : Int) (w : World) : Calls Try.prog 27 #[.int .i64 W, .int .i64 H, .int .i64 L] w (Scr2 w (snS W H L) (snC W H L) (snOk W H L)) := by
  have t0 : Below w.heap.size w (w.alloc (.cells zC 49)) := (Below.refl _ _).alloc (Nat.le_refl _) _
  by_cases hs : sizeB W H = true
  case neg =>
    have HS : Hid (sizeB W H = false) := by show _ = _; simpa using hs
    have hq : snOk W H L = false := by rw [snOk, HS.out]; rfl
    obtain ⟨e1, e2⟩ := sn_no (W := W) (H := H) (L := L) (by rw [hq]; simp)
    rw [e1, e2, hq]
    clear hs hq e1 e2
    go_enter Try.func27, Try.ntmps27
    go_wp2_with fail
    refine (isSize_any _ _ _).mono ?_
    rintro e w' ⟨he, rfl⟩
    rw [HS.out] at he
    subst he
    go_wp2_with (first
      | (refine wp_store_blk rfl 49 _ _ rfl w.heap.size zC rfl rfl 49 zC (heap_alloc_new _ _) size_scr rfl (by simp [Value.oneCell']) ?_; intro w7 B7 C7 z7))
    refine bodyPost_ret (results_row2 Try.results27 _ _ w.heap.size zC rfl (load_scr B7 rfl)) rfl (nil2 ?_)
    exact t0.trans (C7.below (fun k hk => by simp at hk; omega) (by simp))
  have HS := Lib.hid hs
  by_cases hl : withinB L 0 100 = true
  case neg =>
    have HL : Hid (withinB L 0 100 = false) := by show _ = _; simpa using hl
    have hq : snOk W H L = false := by rw [snOk, HL.out]; simp
    obtain ⟨e1, e2⟩ := sn_no (W := W) (H := H) (L := L) (by rw [hq]; simp)
    rw [e1, e2, hq]
    clear hs hq e1 e2 hl
    go_enter Try.func27, Try.ntmps27
    go_wp2_with fail
    refine (isSize_any _ _ _).mono ?_
    rintro e w' ⟨he, rfl⟩
    rw [HS.out] at he
    subst he
    go_wp2_with fail
    refine (within_any _ _ _ _).mono ?_
    rintro e w' ⟨he, rfl⟩
    rw [HL.out] at he
    subst he
    go_wp2_with (first
      | (refine wp_store_blk rfl 49 _ _ rfl w.heap.size zC rfl rfl 49 zC (heap_alloc_new _ _) size_scr rfl (by simp [Value.oneCell']) ?_; intro w7 B7 C7 z7))
    refine bodyPost_ret (results_row2 Try.results27 _ _ w.heap.size zC rfl (load_scr B7 rfl)) rfl (nil2 ?_)
    exact t0.trans (C7.below (fun k hk => by simp at hk; omega) (by simp))
  have HL := Lib.hid hl
  have hq : snOk W H L = true := by rw [snOk, hs, hl]; rfl
  obtain ⟨e1, e2⟩ := sn_yes hq
  rw [e1, e2, hq]
  obtain ⟨s1, s2, s3, s4, s5⟩ := of_decide_eq_true hs
  obtain ⟨p1, p2⟩ := prod_bd s1 s2 s3 s4
  clear hs hl hq e1 e2
  obtain ⟨a, rfl⟩ := Int.eq_ofNat_of_zero_le (show 0 ≤ W by omega)
  obtain ⟨b, rfl⟩ := Int.eq_ofNat_of_zero_le (show 0 ≤ H by omega)
  obtain ⟨n, hn⟩ : ∃ n, Hid (n = b * a) := ⟨_, Lib.hid rfl⟩
  have hnn : (a : Int) * (b : Int) = (n : Int) := by rw [hn.out, Int.mul_comm]; exact (Int.natCast_mul b a).symm
  have hn1 : 1 ≤ n := by omega
  have hn2 : n ≤ 4000 := by omega
  have HC : Hid (contN a b = ⟨List.replicate n bk, List.replicate n bk, tabL (tabK a), []⟩) := by
    show _ = _
    rw [contN, hnn]
    rfl
  rw [HC.out]
  clear hnn s5 p1 p2
  go_enter Try.func27, Try.ntmps27
  go_wp2_with fail
  refine (isSize_any _ _ _).mono ?_
  rintro e w' ⟨he, rfl⟩
  rw [HS.out] at he
  subst he
  go_wp2_with fail
  refine (within_any _ _ _ _).mono ?_
  rintro e w' ⟨he, rfl⟩
  rw [HL.out] at he
  subst he
  go_wp2_with fail
  refine (gridOf_any a b n _ hn hn1 hn2).mono ?_
  rintro e w1 ⟨A1, c1x, rfl, om1, _, _, hb1⟩
  have t1 := t0.trans (hb1.mono t0.size)
  go_wp2_with fail
  refine (gridOf_any a b n _ hn hn1 hn2).mono ?_
  rintro e w2 ⟨A2, c2x, rfl, oa2, _, _, hb2⟩
  have t2 := t1.trans (hb2.mono t1.size)
  go_wp2_with fail
  refine (tabsOf_impl _ _ s1 s2).mono ?_
  rintro e w3 ⟨A3, c3x, rfl, ot3, hb3⟩
  have t3 := t2.trans (hb3.mono t2.size)
  have z1 : w.heap.size + 1 ≤ w1.heap.size := by have := hb1.size; simpa using this
  have z2 : w1.heap.size ≤ w2.heap.size := hb2.size
  have z3 : w2.heap.size ≤ w3.heap.size := hb3.size
  have B3 : w3.heap[w.heap.size]? = some (.cells zC 49 (0, 0)) := (hb3.block _ (by omega)).trans ((hb2.block _ (by omega)).trans ((hb1.block _ (by simp)).trans (heap_alloc_new _ _)))
  have HB3 := Lib.hid B3
  clear B3
  go_wp2_with (first
    | (refine wp_store_blk rfl 49 _ _ rfl w.heap.size #[.int .i64 a, .int .i64 b, .int .i64 a, .int .i64 b, .slice A1 n c1x, .int .i64 a, .int .i64 b, .slice A2 n c2x, .bool false, .int .i64 0, .int .i64 0, .bool false, .int .i64 0, .int .i64 0, .bool false, .bool false, .bool false, .int .i64 0, .int .i64 ((b : Int) - 1), .bool false, .bool false, .int .i64 0, .int .i64 0, .int .i64 0, .int .i64 0, .bool false, .bool false, .bool false, .slice A3 (tabL (tabK a)).length c3x, .int .i64 L, .slice none 0 0] rfl rfl 49 zC HB3.out size_scr rfl (by simp [Value.oneCell']) ?_; intro w7 B7 C7 z7))
  refine bodyPost_ret (results_row2 Try.results27 _ _ w.heap.size _ rfl (load_scr B7 rfl)) rfl ?_
  have F0 : ∀ k, w.heap.size + 1 ≤ k → some k ∉ [some w.heap.size] := fun k hk hm => by
    simp at hm
    omega
  have c3 : Chg [some w.heap.size] w3 w7 := C7
  have c2 := (Chg.of_below [some w.heap.size] hb3).trans c3
  have c1 := (Chg.of_below [some w.heap.size] hb2).trans c2
  simp only [World.size_alloc] at om1
  have om : Og w7 w.heap.size A1 c1x (List.replicate n bk) := (om1.chg c1 fun k hk => F0 k (by have := (om1.ob_lt hk).1; omega)).mono (by omega)
  have oa : Og w7 w.heap.size A2 c2x (List.replicate n bk) := (oa2.chg c2 fun k hk => F0 k (by have := (oa2.ob_lt hk).1; omega)).mono (by omega)
  have ot : Oi w7 w.heap.size A3 c3x (tabL (tabK a)) := (ot3.chg c3 fun k hk => F0 k (by have := (ot3.ob_lt hk).1; omega)).mono (by omega)
  refine ⟨(A1, c1x, List.replicate n bk), (A2, c2x, List.replicate n bk), (A3, c3x, tabL (tabK a)), tr0, by simp [scN], ⟨rfl, rfl, rfl, rfl⟩, So.of_order (n1 := w1.heap.size) (n2 := w2.heap.size) (n3 := w3.heap.size) om oa ot (Or.nil _ _) (Ow.nil _ _ _) (fun k hk => (om1.ob_lt hk).2) (fun k hk => ⟨by have := (oa2.ob_lt hk).1; omega, (oa2.ob_lt hk).2⟩) (fun k hk => ⟨by have := (ot3.ob_lt hk).1; omega, (ot3.ob_lt hk).2⟩) (fun k hk => by simp [ft, ob, Value.ownBlock] at hk) (by omega) (by omega), ?_⟩
  exact t3.trans (C7.below (fun k hk => by simp at hk; omega) (by omega))
end Go.Proofs.Ytnilgcahggmncaa
