/- Slices of cells of one's own; so many numbers at an offset. A frame read: what is answered; the bytes of a number tell the number. A frame read: the program's way. A frame read: the reference's way. -/
import Derived.Test.YtpaeffmjkkikbaaGreatDoorOc
import Derived.Test.YtpaeffmjkkikbaaGreatDoorPd
import Derived.Test.YtpaeffmjkkikbaaGreatDoorOwn2
import Derived.Deep.RegionHeld3
import Derived.Deep.DeepCutAuto
namespace Go.Proofs.YtpaeffmjkkikbaaGreatDoor
open Go.RowKit

set_option linter.unusedVariables false
set_option maxRecDepth 100000

section
variable {e : TypeId} {w w' : World} {lo c : Nat} {A : Option Addr} {vs : List Value}
end
section
variable {ops : Array Oper} {rest : List Oper} {o : Oper} {a : Act} {Q : Exit → Act → World → Prop}
end
theorem info_int : (Tryz.prog.info? 3).map (fun i => (i.zero, i.size, i.bytes)) = some (some (.int .i64 0), 1, 8) := by kernel_rfl
def lastEnd (z : Int) : List (Int × Int) → Int
  | [] => z
  | p :: _ => p.2
/-- The numbers read, the last one first. -/
def RunR (xs : List UInt8) (z : Int) : List (Int × Int) → Prop
  | [] => True
  | p :: r => RunR xs z r ∧ gvAt xs (lastEnd z r) = (p.1, p.2, true)
def VarsPost (xs : List UInt8) (z : Int) (many : Nat) (w : World) (e : Ending) (w' : World) : Prop :=
  Below w.heap.size w w' ∧
  ((∃ l A1 c1 A2 c2, l.length = many ∧ Hid (RunR xs z l) ∧ e = .returned (.tuple #[.slice A1 many c1, .slice A2 many c2, .bool true]) ∧ Cs w' A1 (l.map (fun p => I p.1)).reverse ∧ Cs w' A2 (l.map (fun p => I p.2)).reverse) ∨
   (∃ l, l.length < many ∧ Hid (RunR xs z l ∧ (gvAt xs (lastEnd z l)).2.2 = false) ∧ e = .returned (.tuple #[.slice none 0 0, .slice none 0 0, .bool false])))
set_option maxHeartbeats 1000000 in
theorem getVars_any (A : Option Addr) (c : Nat) (xs : List UInt8) (z : Int) (many : Nat) (w : World) (ha : By w A xs) (hc : xs.length ≤ c) (h1 : xs.length ≤ 549755813888) (hm : many ≤ 4) :
    Calls Tryz.prog 67 #[.slice A xs.length c, .int .i64 z, .int .i64 many] w (VarsPost xs z many w) := by
  go_enter Tryz.func67, Tryz.ntmps67
  go_wp2_with fail
  go_loopw [1, 9, 10, 17] (fun z0 nv ev i wr => ∃ (k : Nat) (l : List (Int × Int)) (A1 A2 : Option Addr) (c1 c2 : Nat) (ns qs : List Value) (z' : Int), k ≤ many ∧ i = .int .i64 k ∧ z0 = .int .i64 z' ∧ nv = .slice A1 k c1 ∧ ev = .slice A2 k c2 ∧ ns.length = k ∧ qs.length = k ∧ Hid (l.length = k ∧ RunR xs z l ∧ z' = lastEnd z l ∧ ns = (l.map (fun p => I p.1)).reverse ∧ qs = (l.map (fun p => I p.2)).reverse) ∧ Oc 3 wr w.heap.size A1 c1 ns ∧ Oc 3 wr w.heap.size A2 c2 qs ∧ Dj A2 A1 ∧ Below w.heap.size w wr) (fun _ _ _ i _ => many - (intOf i).toNat)
  case atStart =>
    refine ⟨0, [], _, _, _, _, [], [], z, Nat.zero_le _, rfl, rfl, rfl, rfl, rfl, rfl, ⟨rfl, trivial, rfl, rfl, rfl⟩, Oc.empty.alloc _, (by have h := Oc.empty (e := 3) (w := w.alloc (.cells #[] 3)); simp at h ⊢; exact h.mono (by omega)), ?_, (((Below.refl _ _).alloc (Nat.le_refl _) _).alloc (by simp) _)⟩
    intro a a' h1 h2
    injection h1 with h1
    injection h2 with h2
    subst h1 h2
    simp
  case round =>
    obtain ⟨k, l, A1, A2, c1, c2, ns, qs, z', hk, rfl, rfl, rfl, rfl, hn1, hn2, hl, ho1, ho2, hdj, hb⟩ := hrel
    have zb := hb.size
    by_cases hlt : k < many
    · have hlt' : (k : Int) < many := by omega
      have hbx := ha.below hb
      rcases hg : gvAt xs z' with ⟨n, q, ok⟩
      cases ok with
      | false =>
        have HV : Hid (gvV xs z' = .tuple #[.int .i64 n, .int .i64 q, .bool false]) := by show _ = _; rw [gvV, hg]
        have HF : Hid ((gvAt xs (lastEnd z l)).2.2 = false) := by show _ = _; rw [← hl.out.2.2.1, hg]
        have HL : l.length < many := by rw [hl.out.1]; exact hlt
        have HR : Hid (RunR xs z l) := hl.out.2.1
        clear hl hg
        go_wp2_with (go_at_call 99; refine (getVar_implR _ _ _ _ _ hbx hc h1).mono ?_; rintro e w' ⟨he, rfl⟩; rw [HV.out] at he; subst he)
        go_ret3
        exact ⟨hb, .inr ⟨l, HL, ⟨HR.out, HF.out⟩, rfl⟩⟩
      | true =>
        have HV : Hid (gvV xs z' = .tuple #[.int .i64 n, .int .i64 q, .bool true]) := by show _ = _; rw [gvV, hg]
        have HG : Hid (gvAt xs (lastEnd z l) = (n, q, true)) := by show _ = _; rw [← hl.out.2.2.1, hg]
        clear hg
        go_wp2_with (first
          | (go_at_call 99; refine (getVar_implR _ _ _ _ _ hbx hc h1).mono ?_; rintro e w' ⟨he, rfl⟩; rw [HV.out] at he; subst he)
          | (at_builtin; refine wp_app1C 101 3 (.int .i64 0) 8 Tryz.underlying101 info_int (by omega) rfl rfl _ _ rfl w.heap.size A1 c1 ns _ _ _ rfl ho1 hn1.symm rfl rfl (by omega) zb ?_; intro A3 c3 w3 us hus ho3 hb3 hkp; have zb3 := hb3.size; obtain ⟨ho4, hdj4⟩ := hkp _ _ _ _ _ ho2 hdj)
          | (at_builtin; refine wp_app1C 101 3 (.int .i64 0) 8 Tryz.underlying101 info_int (by omega) rfl rfl _ _ rfl w.heap.size A2 c2 qs _ _ _ rfl ho4 hn2.symm rfl rfl (by omega) (by omega) ?_; intro A5 c5 w5 us5 hus5 ho5 hb5 hkp5))
        have hu1 := hus.out
        have hu2 := hus5.out
        have l1 : us.length = k + 1 := by rw [hu1]; simp [hn1]
        have l2 : us5.length = k + 1 := by rw [hu2]; simp [hn2]
        obtain ⟨ho6, hdj6⟩ := hkp5 _ _ _ _ _ ho3 (fun a a' h1 h2 h3 => hdj4 a' a h2 h1 h3.symm)
        go_roundw
        case rel =>
          refine ⟨k + 1, (n, q) :: l, A3, A5, c3, c5, us, us5, q, by omega, by go_num, rfl, by rw [l1], by rw [l2], l1, l2, ?_, ho6, ho5, fun a a' h1 h2 h3 => hdj6 a' a h2 h1 h3.symm, (hb.trans hb3).trans hb5⟩
          have h := hl.out
          exact ⟨by simp [h.1], ⟨h.2.1, HG.out⟩, rfl, by rw [hu1, h.2.2.2.1]; simp, by rw [hu2, h.2.2.2.2]; simp⟩
        case measure => simp [intOf]; omega
    · have hlt' : ¬ (k : Int) < many := by omega
      obtain rfl : k = many := by omega
      go_wp2_with fail
      go_ret3
      have h := hl.out
      exact ⟨hb, .inl ⟨l, A1, c1, A2, c2, h.1, h.2.1, rfl, by rw [← h.2.2.2.1]; exact ho1.cs, by rw [← h.2.2.2.2]; exact ho2.cs⟩⟩

set_option linter.unusedVariables false

theorem val_varB (n : Nat) : val (varB n) = n := by
  induction n using Nat.strongRecOn with
  | _ n ih =>
    by_cases h : n < 128
    · rw [varB_small h]; simp [val]; omega
    · rw [varB_big h, val, ih (n / 128) (by omega)]; simp; omega
theorem varB_inj {a b : Nat} (h : varB a = varB b) : a = b := by rw [← val_varB a, h, val_varB]

abbrev FrOut := Int × List UInt8 × Int × Int
def frT (xs : List UInt8) (z n s k q r : Nat) : FrOut :=
  if ¬ (1 ≤ n ∧ n ≤ 1000000000) ∨ 60000 < s then (0, [], 0, 4)
  else if xs.length < r + s then (0, [], 0, 5)
  else if crcN ((xs.drop z).take (q - z) ++ (xs.drop r).take s) ≠ k then (0, [], 0, 6)
  else ((n : Int), (xs.drop r).take s, (r : Int) + s, 0)
def frB3 (xs : List UInt8) (z : Nat) (v1 v2 v3 : Int × Int × Bool) : FrOut :=
  if v1.2.2 = true ∧ v2.2.2 = true ∧ v3.2.2 = true then frT xs z v1.1.toNat v2.1.toNat v3.1.toNat v2.2.1.toNat v3.2.1.toNat else (0, [], 0, 3)
def frR (xs : List UInt8) (z : Int) : FrOut :=
  if z < 0 ∨ (xs.length : Int) < z then (0, [], 0, 1)
  else if xs[z.toNat]? ≠ some 167 then (0, [], 0, 2)
  else frB3 xs z.toNat (gvAt xs (z + 1)) (gvAt xs (gvAt xs (z + 1)).2.1) (gvAt xs (gvAt xs (gvAt xs (z + 1)).2.1).2.1)
theorem frR_out {xs : List UInt8} {z : Int} (h : z < 0 ∨ (xs.length : Int) < z) : frR xs z = (0, [], 0, 1) := if_pos h
theorem frR_mark {xs : List UInt8} {z : Nat} (h : z ≤ xs.length) (h2 : xs[z]? ≠ some 167) : frR xs z = (0, [], 0, 2) := by
  rw [frR, if_neg (by omega), Int.toNat_natCast, if_pos h2]
theorem frR_in {xs : List UInt8} {z : Nat} (h2 : xs[z]? = some 167) : frR xs z = frB3 xs z (gvAt xs (z + 1)) (gvAt xs (gvAt xs (z + 1)).2.1) (gvAt xs (gvAt xs (gvAt xs (z + 1)).2.1).2.1) := by
  have h := (List.getElem?_eq_some_iff.1 h2).1
  rw [frR, if_neg (by omega), Int.toNat_natCast, if_neg (by simp [h2])]
theorem frR_yes {xs : List UInt8} {z n p s q k r : Nat} (h2 : xs[z]? = some 167) (g1 : gvAt xs (z + 1) = ((n : Int), (p : Int), true)) (g2 : gvAt xs p = ((s : Int), (q : Int), true)) (g3 : gvAt xs q = ((k : Int), (r : Int), true)) :
    frR xs z = frT xs z n s k q r := by
  rw [frR_in h2, g1, g2, g3, frB3, if_pos ⟨rfl, rfl, rfl⟩]
  simp
theorem frR_no {xs : List UInt8} {z : Nat} {l : List (Int × Int)} (h2 : xs[z]? = some 167) (hl : l.length < 3) (hr : RunR xs (z + 1) l) (hf : (gvAt xs (lastEnd (z + 1) l)).2.2 = false) : frR xs z = (0, [], 0, 3) := by
  rw [frR_in h2]
  match l, hl, hr, hf with
  | [], _, _, hf =>
    simp only [lastEnd] at hf
    rw [frB3, if_neg (by simp [hf])]
  | [p1], _, ⟨_, h1⟩, hf =>
    simp only [lastEnd] at h1 hf
    rw [h1, frB3, if_neg (by simp [hf])]
  | [p2, p1], _, ⟨⟨_, h1⟩, h3⟩, hf =>
    simp only [lastEnd] at h1 h3 hf
    rw [h1, h3, frB3, if_neg (by simp [hf])]
theorem frR_no2 {xs : List UInt8} {z : Nat} (h2 : xs[z]? = some 167) (hf : ¬ ((gvAt xs (z + 1)).2.2 = true ∧ (gvAt xs (gvAt xs (z + 1)).2.1).2.2 = true ∧ (gvAt xs (gvAt xs (gvAt xs (z + 1)).2.1).2.1).2.2 = true)) : frR xs z = (0, [], 0, 3) := by
  rw [frR_in h2, frB3, if_neg hf]
theorem frT_4 {xs : List UInt8} {z n s k q r : Nat} (h : ¬ (1 ≤ n ∧ n ≤ 1000000000) ∨ 60000 < s) : frT xs z n s k q r = (0, [], 0, 4) := if_pos h
theorem frT_5 {xs : List UInt8} {z n s k q r : Nat} (h : ¬ (¬ (1 ≤ n ∧ n ≤ 1000000000) ∨ 60000 < s)) (h2 : xs.length < r + s) : frT xs z n s k q r = (0, [], 0, 5) := by rw [frT, if_neg h, if_pos h2]
theorem frT_6 {xs : List UInt8} {z n s k q r : Nat} (h : ¬ (¬ (1 ≤ n ∧ n ≤ 1000000000) ∨ 60000 < s)) (h2 : ¬ xs.length < r + s) (h3 : crcN ((xs.drop z).take (q - z) ++ (xs.drop r).take s) ≠ k) : frT xs z n s k q r = (0, [], 0, 6) := by rw [frT, if_neg h, if_neg h2, if_pos h3]
theorem frT_0 {xs : List UInt8} {z n s k q r : Nat} (h : ¬ (¬ (1 ≤ n ∧ n ≤ 1000000000) ∨ 60000 < s)) (h2 : ¬ xs.length < r + s) (h3 : crcN ((xs.drop z).take (q - z) ++ (xs.drop r).take s) = k) : frT xs z n s k q r = ((n : Int), (xs.drop r).take s, (r : Int) + s, 0) := by rw [frT, if_neg h, if_neg h2, if_neg (by simp [h3])]
/-- What a reading of a frame hands back. -/
def FrPost (w : World) (r : FrOut) (e : Ending) (w' : World) : Prop :=
  ∃ n A' c' us p k, Hid (r = (n, us, p, k)) ∧ e = .returned (.tuple #[.int .i64 n, .slice A' us.length c', .int .i64 p, .int .i64 k]) ∧ Ob w' w.heap.size A' c' us ∧ Below w.heap.size w w'
theorem fr_no {w w' : World} {r : FrOut} {k : Int} (hr : Hid (r = (0, [], 0, k))) (hb : Below w.heap.size w w') : FrPost w r (.returned (.tuple #[.int .i64 0, .slice none 0 0, .int .i64 0, .int .i64 k])) w' :=
  ⟨0, none, 0, [], 0, k, hr, rfl, ownsG_nil _ _ _ _, hb⟩
theorem drop_take_join {T : Type} (xs : List T) {a b c : Nat} (h1 : a ≤ b) (h2 : b ≤ c) : (xs.drop a).take (c - a) = (xs.drop a).take (b - a) ++ (xs.drop b).take (c - b) := by
  have e : c - a = (b - a) + (c - b) := by omega
  rw [e, List.take_add, List.drop_drop]
  congr 3
  omega
/-- The bytes read are the bytes that the numbers would be written as. -/
theorem fr_bytes {xs : List UInt8} {z n p s q k r : Nat} (h2 : xs[z]? = some 167) (g1 : gv (xs.drop (z + 1)) = some (n, p - (z + 1))) (g2 : gv (xs.drop p) = some (s, q - p)) (g3 : gv (xs.drop q) = some (k, r - q))
    (o1 : z + 1 < p) (o2 : p < q) (o3 : q < r) (hr : r + s ≤ xs.length) :
    (xs.drop z).take (q - z) = frameHead n ((xs.drop r).take s) ∧ (xs.drop z).take (r + s - z) = frameHead n ((xs.drop r).take s) ++ varB k ++ (xs.drop r).take s := by
  have a1 := (gv_some g1).2.2.2.2
  have a2 := (gv_some g2).2.2.2.2
  have a3 := (gv_some g3).2.2.2.2
  have hl : ((xs.drop r).take s).length = s := by simp; omega
  have b1 : (xs.drop z).take 1 = [167] := by
    have hz := (List.getElem?_eq_some_iff.1 h2).1
    rw [List.drop_eq_getElem_cons hz]
    have := (List.getElem?_eq_some_iff.1 h2).2
    simp [this]
  have c1 : (xs.drop z).take (q - z) = frameHead n ((xs.drop r).take s) := by
    rw [drop_take_join xs (show z ≤ z + 1 by omega) (show z + 1 ≤ q by omega), drop_take_join xs (show z + 1 ≤ p by omega) (show p ≤ q by omega), show z + 1 - z = 1 by omega, b1, a1, a2, frameHead, hl]
    simp
  refine ⟨c1, ?_⟩
  rw [drop_take_join xs (show z ≤ q by omega) (show q ≤ r + s by omega), c1, drop_take_join xs (show q ≤ r by omega) (show r ≤ r + s by omega), a3, show r + s - r = s by omega, List.append_assoc]

set_option linter.unusedVariables false
set_option maxRecDepth 100000

theorem results_tmp4 {fn : Func} {t u v x : Tmp} (h : fn.results = #[.tmp t, .tmp u, .tmp v, .tmp x]) (tmps : Array Value) (P : Program) (w : World) :
    (results fn tmps).run P w = .ok (.tuple #[tmps.getD t undef, tmps.getD u undef, tmps.getD v undef, tmps.getD x undef]) w := by
  simp [results, h]
theorem Cs.three {w : World} {A : Option Addr} {a b c : Value} (h : Cs w A [a, b, c]) : ∃ k o, A = some ⟨k, o, none⟩ ∧ w.cell? ⟨k, o, none⟩ = some a ∧ w.cell? ⟨k, o + 1, none⟩ = some b ∧ w.cell? ⟨k, o + 2, none⟩ = some c := by
  rcases h with h | ⟨k, o, rfl, h⟩
  · cases h
  · exact ⟨k, o, rfl, h 0 _ rfl, h 1 _ rfl, h 2 _ rfl⟩
theorem len3 {l : List (Int × Int)} (h : l.length = 3) : ∃ a b c, l = [c, b, a] := by
  match l, h with
  | [c, b, a], _ => exact ⟨a, b, c, rfl⟩
theorem gvAt_true {xs : List UInt8} {z : Int} {p : Int × Int} (h : gvAt xs z = (p.1, p.2, true)) : ∃ n q : Nat, p = ((n : Int), (q : Int)) ∧ gvAt xs z = ((n : Int), (q : Int), true) ∧ n ≤ 4294967295 ∧ q ≤ xs.length ∧ z < q ∧ (0 ≤ z ∧ gv (xs.drop z.toNat) = some (n, q - z.toNat)) := by
  rcases gvAt_cases xs z with h2 | ⟨n, q, h2, rest⟩
  · rw [h2] at h; simp at h
  · rw [h2] at h
    simp only [Prod.mk.injEq] at h
    exact ⟨n, q, Prod.ext h.1.symm h.2.1.symm, h2, rest⟩
set_option maxHeartbeats 2000000 in
theorem frameRead_impl (A : Option Addr) (c : Nat) (xs : List UInt8) (z : Int) (w : World) (ha : By w A xs) (hc : xs.length ≤ c) (h1 : xs.length ≤ 137438953472) :
    Calls Tryz.prog 84 #[.slice A xs.length c, .int .i64 z] w (FrPost w (frR xs z)) := by
  by_cases hz : z < 0 ∨ (xs.length : Int) < z
  · have HR := Lib.hid (frR_out hz)
    have hw : Hid (decide (0 ≤ z ∧ z ≤ (xs.length : Int)) = false) := by show _ = _; simp; omega
    clear hz
    go_enter Tryz.func84, Tryz.ntmps84
    go_wp2_with (go_at_call 81; refine (within_any _ _ _ _).mono ?_; rintro e w' ⟨he, rfl⟩; rw [hw.out] at he; subst he)
    ((try simp only [Exit.inBlock, Exit.then]); refine bodyPost_ret (results_tmp4 rfl _ _ _) rfl ?_)
    exact fr_no HR (Below.refl _ _)
  · obtain ⟨k, rfl⟩ := Int.eq_ofNat_of_zero_le (show 0 ≤ z by omega)
    have hk : k ≤ xs.length := by omega
    have hw : Hid (decide (0 ≤ (k : Int) ∧ (k : Int) ≤ (xs.length : Int)) = true) := by show _ = _; simp; omega
    clear hz
    by_cases hmk : xs[k]? = some 167
    · have hlt := (List.getElem?_eq_some_iff.1 hmk).1
      have e1 : ((k : Int) == (xs.length : Int)) = false := by simp; omega
      obtain ⟨b, o, rfl, hcell⟩ := ha.pos (by omega)
      have hx := hcell k _ hmk
      have HMK := Lib.hid hmk
      clear hcell hmk
      have hlt' : (k : Int) < xs.length := by omega
      go_enter Tryz.func84, Tryz.ntmps84
      go_wp2_with (go_at_call 81; refine (within_any _ _ _ _).mono ?_; rintro e w' ⟨he, rfl⟩; rw [hw.out] at he; subst he)
      refine (getVars_any _ _ _ _ 3 _ ha hc (by omega) (by omega)).mono ?_
      rintro e w1 ⟨hb1, hcase⟩
      have z1 := hb1.size
      rcases hcase with ⟨l, A1, c1, A2, c2, hl, hr, rfl, hs1, hs2⟩ | ⟨l, hl, hr, rfl⟩
      · obtain ⟨p1, p2, p3, rfl⟩ := len3 hl
        obtain ⟨⟨⟨_, g1⟩, g2⟩, g3⟩ := hr.out
        simp only [lastEnd] at g1 g2 g3
        obtain ⟨n, p, rfl, g1, n1, b1, o1, _, v1⟩ := gvAt_true g1
        obtain ⟨s, q, rfl, g2, n2, b2, o2, _, v2⟩ := gvAt_true g2
        obtain ⟨m, r, rfl, g3, n3, b3, o3, _, v3⟩ := gvAt_true g3
        simp only [List.map_cons, List.map_nil, List.reverse_cons, List.reverse_nil, List.nil_append, List.cons_append] at hs1 hs2
        obtain ⟨k1, j1, rfl, d1, d2, d3⟩ := hs1.three
        obtain ⟨k2, j2, rfl, f1, f2, f3⟩ := hs2.three
        have HY := Lib.hid (frR_yes HMK.out g1 g2 g3)
        clear hr hs1 hs2 hl g1 g2 g3
        have o2' : p < q := by omega
        have o3' : q < r := by omega
        by_cases hn : 1 ≤ n ∧ n ≤ 1000000000
        · have q1 : Hid (decide (1 ≤ (n : Int) ∧ (n : Int) ≤ 1000000000) = true) := by show _ = _; simp; omega
          by_cases hs4 : 60000 < s
          · have HR := Lib.hid ((HY.out).trans (frT_4 (.inr hs4)))
            have i4 : (60000 : Int) < s := by omega
            clear HY
            go_wp2_with (go_at_call 68; refine (isSeq_any _ _).mono ?_; rintro e w' ⟨he, rfl⟩; rw [q1.out] at he; subst he)
            ((try simp only [Exit.inBlock, Exit.then]); refine bodyPost_ret (results_tmp4 rfl _ _ _) rfl ?_)
            exact fr_no HR hb1
          · have i4 : ¬ (60000 : Int) < s := by omega
            have h4 : ¬ (¬ (1 ≤ n ∧ n ≤ 1000000000) ∨ 60000 < s) := by omega
            by_cases h5 : xs.length < r + s
            · have HR := Lib.hid ((HY.out).trans (frT_5 h4 h5))
              have i5 : (xs.length : Int) - r < s := by omega
              clear HY h4 h5
              go_wp2_with (go_at_call 68; refine (isSeq_any _ _).mono ?_; rintro e w' ⟨he, rfl⟩; rw [q1.out] at he; subst he)
              go_quiet (fail)
              go_wp2_with fail
              ((try simp only [Exit.inBlock, Exit.then]); refine bodyPost_ret (results_tmp4 rfl _ _ _) rfl ?_)
              exact fr_no HR (below_drewN hb1 _)
            · have i5 : ¬ (xs.length : Int) - r < s := by omega
              have hab := ha.below hb1
              obtain ⟨A5, c5, u5, hu5, hc5, hby5, hrun5⟩ := slice_lh_run (some ⟨b, o, none⟩) c r (r + s) xs .i64 .i64 (by omega) (by omega) hc
              obtain ⟨A6, c6, u6, hu6, hc6, hby6, hrun6⟩ := slice_lh_run (some ⟨b, o, none⟩) c k q xs .i64 .i64 (by omega) (by omega) hc
              have L5 : Hid (u5.length = s) := by show _ = _; rw [hu5.out]; simp; omega
              have l5 : u5.length ≤ xs.length := by rw [hu5.out]; simp; omega
              have l6 : u6.length ≤ xs.length := by rw [hu6.out]; simp; omega
              have e1 : ((r + s : Nat) : Int) = (r : Int) + s := by omega
              rw [e1] at hrun5
              clear e1
              go_wp2_with (go_at_call 68; refine (isSeq_any _ _).mono ?_; rintro e w' ⟨he, rfl⟩; rw [q1.out] at he; subst he)
              go_quiet (fail)
              go_wp2_with fail
              go_quiet (fail)
              go_wp2_with fail
              refine (clone_any _ _ _ _ (By.drewN (hby5 w1 hab) _) (by omega)).mono ?_
              rintro e w2 ⟨A7, c7, rfl, ho7, hb7⟩
              have z2 := hb7.size
              have f2' := (hb7.cell (p := ⟨k2, j2 + 1, none⟩) (World.block_lt_of_cell? w1 _ f2)).trans f2
              have d3' := (hb7.cell (p := ⟨k1, j1 + 2, none⟩) (World.block_lt_of_cell? w1 _ d3)).trans d3
              have hab2 := (hab.drewN _).below hb7
              have hy6 := hby6 w2 hab2
              have E5 : Hid (u5 = (xs.drop r).take s) := by show _ = _; rw [hu5.out]; congr 1; omega
              have d1' := (hb7.cell (p := ⟨k1, j1, none⟩) (World.block_lt_of_cell? w1 _ d1)).trans d1
              clear d1 d2 d3 f1 f2 f3
              by_cases h6 : crcN (u6 ++ u5) = m
              · have hq : (((crcN (u6 ++ u5) : Nat) : Int) != (m : Int)) = false := by simp [h6]
                go_wp2_with fail
                go_region_held3 (fun w' => Below w2.heap.size w2 w' ∧ w'.cell? ⟨k2, j2 + 1, none⟩ = some (I q) ∧ w'.cell? ⟨k1, j1 + 2, none⟩ = some (I m))
                  (first | exact ⟨Below.drew (Below.refl _ _), by simpa using f2', by simpa using d3'⟩ | assumption | (refine ⟨?_, ?_, ?_⟩ <;> assumption))
                  ((go_at_call 69; refine (sumOf_any _ _ _ _ _ _ _ (By.below hy6 (Below.drew (Below.refl _ _))) (By.below ho7.by_ (Below.drew (Below.refl _ _))) (by omega) (by omega)).mono ?_; rintro e w3 ⟨rfl, hb3⟩; have hbw3 : Below w2.heap.size w2 w3 := (Below.drew (Below.refl w2.heap.size w2)).trans hb3; have hkeep := And.intro hbw3 (And.intro ((hbw3.cell (World.block_lt_of_cell? w2 _ f2')).trans f2') ((hbw3.cell (World.block_lt_of_cell? w2 _ d3')).trans d3'))))
                have d1'' := (hbw3.cell (World.block_lt_of_cell? w2 _ d1')).trans d1'
                clear hkeep
                go_wp2_with fail
                have HR := Lib.hid ((HY.out).trans (frT_0 h4 h5 (by rw [← hu6.out, ← E5.out]; exact h6)))
                ((try simp only [Exit.inBlock, Exit.then]); refine bodyPost_ret (results_tmp4 rfl _ _ _) rfl ?_)
                exact ⟨n, A7, c7, u5, _, _, Lib.hid (by rw [HR.out, E5.out]), rfl, (ho7.below hbw3 (Nat.le_refl _)).mono z1, ((below_drewN hb1 _).trans ((hb7.mono z1).trans (hbw3.mono (Nat.le_trans z1 z2))))⟩
              · have hq : (((crcN (u6 ++ u5) : Nat) : Int) != (m : Int)) = true := by simp; omega
                go_wp2_with fail
                go_region_held3 (fun w' => Below w2.heap.size w2 w' ∧ w'.cell? ⟨k2, j2 + 1, none⟩ = some (I q) ∧ w'.cell? ⟨k1, j1 + 2, none⟩ = some (I m))
                  (first | exact ⟨Below.drew (Below.refl _ _), by simpa using f2', by simpa using d3'⟩ | assumption | (refine ⟨?_, ?_, ?_⟩ <;> assumption))
                  ((go_at_call 69; refine (sumOf_any _ _ _ _ _ _ _ (By.below hy6 (Below.drew (Below.refl _ _))) (By.below ho7.by_ (Below.drew (Below.refl _ _))) (by omega) (by omega)).mono ?_; rintro e w3 ⟨rfl, hb3⟩; have hbw3 : Below w2.heap.size w2 w3 := (Below.drew (Below.refl w2.heap.size w2)).trans hb3; have hkeep := And.intro hbw3 (And.intro ((hbw3.cell (World.block_lt_of_cell? w2 _ f2')).trans f2') ((hbw3.cell (World.block_lt_of_cell? w2 _ d3')).trans d3'))))
                clear hkeep
                go_wp2_with fail
                have HR := Lib.hid ((HY.out).trans (frT_6 h4 h5 (by rw [← hu6.out, ← E5.out]; exact h6)))
                ((try simp only [Exit.inBlock, Exit.then]); refine bodyPost_ret (results_tmp4 rfl _ _ _) rfl ?_)
                exact fr_no HR ((below_drewN hb1 _).trans ((hb7.mono z1).trans (hbw3.mono (Nat.le_trans z1 z2))))
        · have HR := Lib.hid ((HY.out).trans (frT_4 (.inl hn)))
          have q1 : Hid (decide (1 ≤ (n : Int) ∧ (n : Int) ≤ 1000000000) = false) := by show _ = _; simp; omega
          clear HY
          go_wp2_with (go_at_call 68; refine (isSeq_any _ _).mono ?_; rintro e w' ⟨he, rfl⟩; rw [q1.out] at he; subst he)
          ((try simp only [Exit.inBlock, Exit.then]); refine bodyPost_ret (results_tmp4 rfl _ _ _) rfl ?_)
          exact fr_no HR hb1
      · have HR := Lib.hid (frR_no HMK.out hl hr.out.1 hr.out.2)
        clear hl hr
        go_wp2_with fail
        ((try simp only [Exit.inBlock, Exit.then]); refine bodyPost_ret (results_tmp4 rfl _ _ _) rfl ?_)
        exact fr_no HR hb1
    · have HR := Lib.hid (frR_mark hk hmk)
      by_cases hke : k = xs.length
      · have e1 : ((k : Int) == (xs.length : Int)) = true := by simp; omega
        clear hmk hke
        go_enter Tryz.func84, Tryz.ntmps84
        go_wp2_with (go_at_call 81; refine (within_any _ _ _ _).mono ?_; rintro e w' ⟨he, rfl⟩; rw [hw.out] at he; subst he)
        ((try simp only [Exit.inBlock, Exit.then]); refine bodyPost_ret (results_tmp4 rfl _ _ _) rfl ?_)
        exact fr_no HR (Below.refl _ _)
      · have e1 : ((k : Int) == (xs.length : Int)) = false := by simp; omega
        obtain ⟨x, hx⟩ : ∃ x, xs[k]? = some x := ⟨_, List.getElem?_eq_getElem (by omega)⟩
        obtain ⟨b, o, rfl, hcell⟩ := ha.pos (by omega)
        have hcx := hcell k _ hx
        have e2 : ((x.toNat : Int) != 167) = true := by
          simp
          intro h
          apply hmk
          rw [hx]
          congr 1
          exact UInt8.toNat_inj.1 (by simp; omega)
        have hlt' : (k : Int) < xs.length := by omega
        clear hcell hx hmk hke
        go_enter Tryz.func84, Tryz.ntmps84
        go_wp2_with (go_at_call 81; refine (within_any _ _ _ _).mono ?_; rintro e w' ⟨he, rfl⟩; rw [hw.out] at he; subst he)
        ((try simp only [Exit.inBlock, Exit.then]); refine bodyPost_ret (results_tmp4 rfl _ _ _) rfl ?_)
        exact fr_no HR (Below.refl _ _)

set_option linter.unusedVariables false
set_option maxRecDepth 100000

theorem gvAt_tt {xs : List UInt8} {z : Int} (h : (gvAt xs z).2.2 = true) : ∃ n q : Nat, gvAt xs z = ((n : Int), (q : Int), true) ∧ n ≤ 4294967295 ∧ q ≤ xs.length ∧ z < q ∧ (0 ≤ z ∧ gv (xs.drop z.toNat) = some (n, q - z.toNat)) := by
  rcases gvAt_cases xs z with h2 | h2
  · rw [h2] at h; simp at h
  · exact h2
theorem frameR_good {n : Nat} {d : List UInt8} (h1 : 1 ≤ n) (h2 : n ≤ 1000000000) (h3 : d.length ≤ 60000) : frameR n d = (frameB n d, true) := by
  rw [frameR, if_pos ⟨⟨by omega, by omega⟩, h3⟩]
theorem bstr_inj {a b : List UInt8} : bstr a = bstr b ↔ a = b := by
  constructor
  · intro h
    rw [← bstr_toList a, h, bstr_toList]
  · intro h
    rw [h]
set_option maxHeartbeats 2000000 in
theorem frameRead_spec (A : Option Addr) (c : Nat) (xs : List UInt8) (z : Int) (w : World) (ha : By w A xs) (hc : xs.length ≤ c) (h1 : xs.length ≤ 137438953472) :
    Calls Tryz.prog 80 #[.slice A xs.length c, .int .i64 z] w (FrPost w (frR xs z)) := by
  by_cases hz : z < 0
  · have HR := Lib.hid (frR_out (xs := xs) (.inl hz))
    go_enter Tryz.func80, Tryz.ntmps80
    go_wp2_with fail
    ((try simp only [Exit.inBlock, Exit.then]); refine bodyPost_ret (results_tmp4 rfl _ _ _) rfl ?_)
    exact fr_no HR (Below.refl _ _)
  by_cases hz2 : (xs.length : Int) < z
  · have HR := Lib.hid (frR_out (xs := xs) (.inr hz2))
    go_enter Tryz.func80, Tryz.ntmps80
    go_wp2_with fail
    ((try simp only [Exit.inBlock, Exit.then]); refine bodyPost_ret (results_tmp4 rfl _ _ _) rfl ?_)
    exact fr_no HR (Below.refl _ _)
  obtain ⟨k, rfl⟩ := Int.eq_ofNat_of_zero_le (show 0 ≤ z by omega)
  have hk : k ≤ xs.length := by omega
  by_cases hmk : xs[k]? = some 167
  · have hlt := (List.getElem?_eq_some_iff.1 hmk).1
    have e1 : ((k : Int) == (xs.length : Int)) = false := by simp; omega
    obtain ⟨b, o, rfl, hcell⟩ := ha.pos (by omega)
    have hx := hcell k _ hmk
    have HMK := Lib.hid hmk
    clear hcell hmk
    have hlt' : (k : Int) < xs.length := by omega
    by_cases hall : (gvAt xs (k + 1)).2.2 = true ∧ (gvAt xs (gvAt xs (k + 1)).2.1).2.2 = true ∧ (gvAt xs (gvAt xs (gvAt xs (k + 1)).2.1).2.1).2.2 = true
    · obtain ⟨t1, t2, t3⟩ := hall
      obtain ⟨n, p, g1, n1, b1, o1, _, v1⟩ := gvAt_tt t1
      rw [g1] at t2 t3
      dsimp only at t2 t3
      obtain ⟨s, q, g2, n2, b2, o2, _, v2⟩ := gvAt_tt t2
      rw [g2] at t3
      dsimp only at t3
      obtain ⟨m, r, g3, n3, b3, o3, _, v3⟩ := gvAt_tt t3
      have HY := Lib.hid (frR_yes HMK.out g1 g2 g3)
      have V1 : Hid (gvV xs (k + 1) = .tuple #[.int .i64 n, .int .i64 p, .bool true]) := by show _ = _; rw [gvV, g1]
      have V2 : Hid (gvV xs p = .tuple #[.int .i64 s, .int .i64 q, .bool true]) := by show _ = _; rw [gvV, g2]
      have V3 : Hid (gvV xs q = .tuple #[.int .i64 m, .int .i64 r, .bool true]) := by show _ = _; rw [gvV, g3]
      clear t1 t2 t3 g1 g2 g3
      have o1' : k + 1 < p := by omega
      have o2' : p < q := by omega
      have o3' : q < r := by omega
      simp only [Int.toNat_natCast, show ((k : Int) + 1).toNat = k + 1 by omega] at v1 v2 v3
      go_enter Tryz.func80, Tryz.ntmps80
      go_wp2_with fail
      refine (getVar_specR _ _ _ _ _ ha hc (by omega)).mono ?_
      rintro e w1 ⟨rfl, hb1⟩
      rw [V1.out]
      go_wp2_with fail
      refine (getVar_specR _ _ _ _ _ (ha.below hb1) hc (by omega)).mono ?_
      rintro e w2 ⟨rfl, hb2⟩
      rw [V2.out]
      go_wp2_with fail
      refine (getVar_specR _ _ _ _ _ ((ha.below hb1).below hb2) hc (by omega)).mono ?_
      rintro e w3 ⟨rfl, hb3⟩
      rw [V3.out]
      have hbw : Below w.heap.size w w3 := hb1.trans ((hb2.mono hb1.size).trans (hb3.mono (Nat.le_trans hb1.size hb2.size)))
      have ha3 := ((ha.below hb1).below hb2).below hb3
      have z3 := hbw.size
      by_cases hn1 : (n : Int) < 1
      · have HR := Lib.hid ((HY.out).trans (frT_4 (.inl (by omega))))
        clear HY
        go_wp2_with fail
        ((try simp only [Exit.inBlock, Exit.then]); refine bodyPost_ret (results_tmp4 rfl _ _ _) rfl ?_)
        exact fr_no HR hbw
      by_cases hn2 : (1000000000 : Int) < n
      · have HR := Lib.hid ((HY.out).trans (frT_4 (.inl (by omega))))
        clear HY
        go_wp2_with fail
        ((try simp only [Exit.inBlock, Exit.then]); refine bodyPost_ret (results_tmp4 rfl _ _ _) rfl ?_)
        exact fr_no HR hbw
      by_cases hs4 : (60000 : Int) < s
      · have HR := Lib.hid ((HY.out).trans (frT_4 (.inr (by omega))))
        clear HY
        go_wp2_with fail
        ((try simp only [Exit.inBlock, Exit.then]); refine bodyPost_ret (results_tmp4 rfl _ _ _) rfl ?_)
        exact fr_no HR hbw
      have h4 : ¬ (¬ (1 ≤ n ∧ n ≤ 1000000000) ∨ 60000 < s) := by omega
      by_cases i5 : (xs.length : Int) - r < s
      · have HR := Lib.hid ((HY.out).trans (frT_5 h4 (by omega)))
        clear HY h4
        go_wp2_with fail
        ((try simp only [Exit.inBlock, Exit.then]); refine bodyPost_ret (results_tmp4 rfl _ _ _) rfl ?_)
        exact fr_no HR hbw
      have h5 : ¬ xs.length < r + s := by omega
      obtain ⟨A5, c5, u5, hu5, hc5, hby5, hrun5⟩ := slice_lh_run (some ⟨b, o, none⟩) c r (r + s) xs .i64 .i64 (by omega) (by omega) hc
      obtain ⟨A6, c6, u6, hu6, hc6, hby6, hrun6⟩ := slice_lh_run (some ⟨b, o, none⟩) c k (r + s) xs .i64 .i64 (by omega) (by omega) hc
      have L5 : Hid (u5.length = s) := by show _ = _; rw [hu5.out]; simp; omega
      have l5 : u5.length ≤ 60000 := by rw [hu5.out]; simp; omega
      have l6 : u6.length ≤ xs.length := by rw [hu6.out]; simp; omega
      have E5 : Hid (u5 = (xs.drop r).take s) := by show _ = _; rw [hu5.out]; congr 1; omega
      have e2 : ((r + s : Nat) : Int) = (r : Int) + s := by omega
      rw [e2] at hrun5 hrun6
      clear e2
      have hbox : Below w3.heap.size w3 (w3.alloc (.cells #[] 5)) := (Below.refl _ _).alloc (Nat.le_refl _) _
      go_wp2_with (at_builtin; refine wp_appN rfl _ _ rfl w3.heap.size _ _ [] _ _ _ u5 Ob.empty ((hby5 w3 ha3).below hbox) rfl rfl (by simp) (by omega) (by simp) ?_; intro A7 c7 w4 u7 hu7 ho7 hb7)
      obtain rfl : u7 = u5 := by rw [hu7.out]; simp
      have hb37 := hbox.trans hb7
      have z4 := hb37.size
      refine (frameBytes_spec _ _ _ _ _ ho7.by_ (by omega)).mono ?_
      rintro e w5 ⟨A8, c8, u8, k8, hu8, hk8, rfl, ho8, hb8⟩
      have z5 := hb8.size
      rw [frameR_good (by omega) (by omega) l5] at hu8 hk8
      have ha5 := (ha3.below hb37).below hb8
      have hy6 := hby6 w5 ha5
      have hy8 := ho8.by_
      have hcv8 : ∀ j, (convert 28 9 (.slice A8 u8.length c8)).run Tryz.prog (w5.drewN j) = .ok (.string (bstr u8)) (w5.drewN j) := fun j => conv_by (hy8.drewN j)
      have hcv6 : ∀ j, (convert 28 9 (.slice A6 u6.length c6)).run Tryz.prog (w5.drewN j) = .ok (.string (bstr u6)) (w5.drewN j) := fun j => conv_by (hy6.drewN j)
      have hcv80 := hcv8 0
      have hcv60 := hcv6 0
      simp only [World.drewN_zero] at hcv80 hcv60
      have hfb := fr_bytes (s := s) HMK.out v1 v2 v3 o1' o2' o3' (by omega)
      have e6 : u6 = frameHead n u7 ++ varB m ++ u7 := by rw [hu6.out, hfb.2, E5.out]
      have e8 : u8 = frameB n u7 := hu8.out
      have e9 : u8 = u6 ↔ crcN (frameHead n u7 ++ u7) = m := by
        rw [e6, e8, frameB]
        constructor
        · intro h
          exact varB_inj (List.append_cancel_left (List.append_cancel_right h))
        · intro h
          rw [h]
      rw [← E5.out] at hfb
      rw [← hfb.1] at e9
      have hbx : Below w.heap.size w w5 := hbw.trans ((hb37.mono z3).trans (hb8.mono (Nat.le_trans z3 z4)))
      have ho9 := (ho7.below hb8 (Nat.le_refl _)).mono z3
      by_cases h6 : u8 = u6
      · have hq : ((bstr u8).toList == (bstr u6).toList) = true := by simp [h6]
        have HR := Lib.hid ((HY.out).trans (frT_0 h4 h5 (by rw [← E5.out]; exact e9.1 h6)))
        clear h6 e9 e8 e6 hfb
        go_wp2_with fail
        go_quiet (fail)
        go_wp2_with fail
        ((try simp only [Exit.inBlock, Exit.then]); refine bodyPost_ret (results_tmp4 rfl _ _ _) rfl ?_)
        exact ⟨n, A7, c7, u7, _, _, Lib.hid (by rw [HR.out, E5.out]), rfl, Ob.drewN ho9 _, below_drewN hbx _⟩
      · have hq : ((bstr u8).toList == (bstr u6).toList) = false := by
          rw [bstr_toList, bstr_toList]
          exact beq_eq_false_iff_ne.2 h6
        have HR := Lib.hid ((HY.out).trans (frT_6 h4 h5 (by rw [← E5.out]; exact fun h => h6 (e9.2 h))))
        clear h6 e9 e8 e6 hfb
        go_wp2_with fail
        go_quiet (fail)
        go_wp2_with fail
        ((try simp only [Exit.inBlock, Exit.then]); refine bodyPost_ret (results_tmp4 rfl _ _ _) rfl ?_)
        exact fr_no HR (below_drewN hbx _)
    · have HR := Lib.hid (frR_no2 HMK.out hall)
      rcases hg1 : gvAt xs (k + 1) with ⟨n, p, t1⟩
      rcases hg2 : gvAt xs p with ⟨s, q, t2⟩
      rcases hg3 : gvAt xs q with ⟨m, r, t3⟩
      rw [hg1] at hall
      simp only [hg2, hg3] at hall
      have V1 : Hid (gvV xs (k + 1) = .tuple #[.int .i64 n, .int .i64 p, .bool t1]) := by show _ = _; rw [gvV, hg1]
      have V2 : Hid (gvV xs p = .tuple #[.int .i64 s, .int .i64 q, .bool t2]) := by show _ = _; rw [gvV, hg2]
      have V3 : Hid (gvV xs q = .tuple #[.int .i64 m, .int .i64 r, .bool t3]) := by show _ = _; rw [gvV, hg3]
      clear hg1 hg2 hg3
      go_enter Tryz.func80, Tryz.ntmps80
      go_wp2_with fail
      refine (getVar_specR _ _ _ _ _ ha hc (by omega)).mono ?_
      rintro e w1 ⟨rfl, hb1⟩
      rw [V1.out]
      go_wp2_with fail
      refine (getVar_specR _ _ _ _ _ (ha.below hb1) hc (by omega)).mono ?_
      rintro e w2 ⟨rfl, hb2⟩
      rw [V2.out]
      go_wp2_with fail
      refine (getVar_specR _ _ _ _ _ ((ha.below hb1).below hb2) hc (by omega)).mono ?_
      rintro e w3 ⟨rfl, hb3⟩
      rw [V3.out]
      have hbw : Below w.heap.size w w3 := hb1.trans ((hb2.mono hb1.size).trans (hb3.mono (Nat.le_trans hb1.size hb2.size)))
      cases t1
      · go_wp2_with fail
        ((try simp only [Exit.inBlock, Exit.then]); refine bodyPost_ret (results_tmp4 rfl _ _ _) rfl ?_)
        exact fr_no HR hbw
      · cases t2
        · go_wp2_with fail
          ((try simp only [Exit.inBlock, Exit.then]); refine bodyPost_ret (results_tmp4 rfl _ _ _) rfl ?_)
          exact fr_no HR hbw
        · cases t3
          · go_wp2_with fail
            ((try simp only [Exit.inBlock, Exit.then]); refine bodyPost_ret (results_tmp4 rfl _ _ _) rfl ?_)
            exact fr_no HR hbw
          · simp at hall
  · have HR := Lib.hid (frR_mark hk hmk)
    by_cases hke : k = xs.length
    · have e1 : ((k : Int) == (xs.length : Int)) = true := by simp; omega
      clear hmk hke
      go_enter Tryz.func80, Tryz.ntmps80
      go_wp2_with fail
      ((try simp only [Exit.inBlock, Exit.then]); refine bodyPost_ret (results_tmp4 rfl _ _ _) rfl ?_)
      exact fr_no HR (Below.refl _ _)
    · have e1 : ((k : Int) == (xs.length : Int)) = false := by simp; omega
      obtain ⟨x, hx⟩ : ∃ x, xs[k]? = some x := ⟨_, List.getElem?_eq_getElem (by omega)⟩
      obtain ⟨b, o, rfl, hcell⟩ := ha.pos (by omega)
      have hcx := hcell k _ hx
      have e2 : ((x.toNat : Int) != 167) = true := by
        simp
        intro h
        apply hmk
        rw [hx]
        congr 1
        exact UInt8.toNat_inj.1 (by simp; omega)
      have hlt' : (k : Int) < xs.length := by omega
      clear hcell hx hmk hke
      go_enter Tryz.func80, Tryz.ntmps80
      go_wp2_with fail
      ((try simp only [Exit.inBlock, Exit.then]); refine bodyPost_ret (results_tmp4 rfl _ _ _) rfl ?_)
      exact fr_no HR (Below.refl _ _)
end Go.Proofs.YtpaeffmjkkikbaaGreatDoor
