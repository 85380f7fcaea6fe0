/- A depot: read, sized, copied, compared. A depot copied. -/
import Derived.Test.YtfkdifgmhfdbdaaGreatDoorU4
namespace Go.Proofs.YtfkdifgmhfdbdaaGreatDoor
open Go.RowKit

set_option linter.unusedVariables false
set_option maxRecDepth 100000

abbrev pdC (r f n : Int) (FA : Option Addr) (fn fc : Nat) (KA : Option Addr) (kn kc : Nat) (TA : Option Addr) (tn tc : Nat) (g s z : Int) (b : Bool) : Array Value := #[.int .i64 r, .int .i64 f, .int .i64 n, .slice FA fn fc, .slice KA kn kc, .slice TA tn tc, .int .i64 g, .int .i64 s, .int .i64 z, .bool b]
abbrev pdV (r f n : Int) (FA : Option Addr) (fn fc : Nat) (KA : Option Addr) (kn kc : Nat) (TA : Option Addr) (tn tc : Nat) (g s z : Int) (b : Bool) : Value := .agg (pdC r f n FA fn fc KA kn kc TA tn tc g s z b)
theorem cells_Depot : Tryz.prog.cellsOf 28 = 10 := by kernel_rfl
theorem cellsB_ : Tryz.prog.cellsOf 4 = 1 := by kernel_rfl
theorem rd_depot {w : World} {vs : List Value} (h : Rd Tryz.prog w 28 vs) : ∃ (ds : List Value) (g s z : Int) (b : Bool), vs = ds ++ [.int .i64 g, .int .i64 s, .int .i64 z, .bool b] ∧ Rd Tryz.prog w 26 ds ∧ bd g ∧ bd s ∧ bd z := by
  obtain ⟨hl, hf⟩ := h.struct Tryz.underlying28
  match vs, hl.trans cells_Depot with
  | [c0, c1, c2, c3, c4, c5, c6, c7, c8, c9], _ =>
    have h0 : Rd Tryz.prog w 26 (([c0, c1, c2, c3, c4, c5, c6, c7, c8, c9].drop 0).take (Tryz.prog.cellsOf 26)) := hf 0 _ rfl
    obtain ⟨g, e1, w1⟩ := (hf 1 _ rfl).int Tryz.underlying3
    obtain ⟨s, e2, w2⟩ := (hf 2 _ rfl).int Tryz.underlying3
    obtain ⟨z, e3, w3⟩ := (hf 3 _ rfl).int Tryz.underlying3
    obtain ⟨b, e4⟩ := (hf 4 _ rfl).bool Tryz.underlying4
    rw [cells_Disk] at h0
    simp [cellsInt_, cellsB_] at e1 e2 e3 e4
    exact ⟨[c0, c1, c2, c3, c4, c5], g, s, z, b, by rw [e1, e2, e3, e4]; rfl, h0, i64_bd w1, i64_bd w2, i64_bd w3⟩
set_option maxHeartbeats 1000000 in
theorem eqDepot_same (r f n : Int) (FA : Option Addr) (fn c1 : Nat) (KA : Option Addr) (c2 : Nat) (TA : Option Addr) (c3 : Nat) (FA' : Option Addr) (c1' : Nat) (KA' : Option Addr) (c2' : Nat) (TA' : Option Addr) (c3' : Nat) (es fs : List Fl) (ks : List Lk) (ts : List Tn) (g s z : Int) (b : Bool) (w : World)
    (hn : es.length = fn) (hF : Fs w FA es) (hF' : Fs w FA' fs) (hd : Hid (fs.map fc = es.map fc)) (hl : fn ≤ 1099511627776) (hm : ∀ e, e ∈ es → e.2.1.2.2.length ≤ 1099511627776)
    (hK : Ks w KA ks) (hK' : Ks w KA' ks) (hkl : ks.length ≤ 1099511627776) (hT : Ts w TA ts) (hT' : Ts w TA' ts) (htl : ts.length ≤ 1099511627776) :
    Calls Tryz.prog 10 #[pdV r f n FA fn c1 KA ks.length c2 TA ts.length c3 g s z b, pdV r f n FA' fn c1' KA' ks.length c2' TA' ts.length c3' g s z b] w fun e w' => e = .returned (.bool true) ∧ Below w.heap.size w w' := by
  have hb0 : Below w.heap.size w ((w.alloc (.cells (pdC r f n FA fn c1 KA ks.length c2 TA ts.length c3 g s z b) 37)).alloc (.cells (pdC r f n FA' fn c1' KA' ks.length c2' TA' ts.length c3' g s z b) 37)) := by (repeat (first | exact Below.refl _ _ | (refine Below.alloc ?_ (by first | omega | (simp; done) | (simp; omega)) _) | (refine Below.drew ?_) | (refine below_drewN ?_ _) | (refine below_at1 ?_ (by first | omega | (simp; done) | (simp; omega))) | (refine Below.setCell ?_ (by first | omega | (simp; done) | (simp; omega)) _) | (refine Below.trans ?_ (Below.mono (by assumption) (by first | omega | (simp; done) | (simp; omega))))))
  have hne : (b != b) = false := by cases b <;> rfl
  go_enter Tryz.func10, Tryz.ntmps10
  go_wp2_with fail
  refine (eqDisk_same r f n FA fn c1 KA c2 TA c3 FA' c1' KA' c2' TA' c3' es fs ks ts _ hn (hF.below hb0) (hF'.below hb0) hd hl hm (SlL.below hK hb0) (SlL.below hK' hb0) hkl (SlL.below hT hb0) (SlL.below hT' hb0) htl).mono ?_
  rintro e w1 ⟨rfl, hb1⟩
  obtain ⟨a1, b1, d1, z1⟩ := keep_blk hb1 (g := w.heap.size) (by repeat (first | assumption | exact heap_alloc_at _ (by first | rfl | (simp; done) | omega) | refine heap_alloc_of _ ?_ | refine heap_setCell_of _ (by first | omega | (simp; done) | (simp; omega)) ?_ | refine heap_setCell_same _ ?_ | exact heap_at1_same (by first | omega | (simp; done) | (simp; omega)) | refine heap_at1_of (by first | omega | (simp; done) | (simp; omega)) ?_))
  obtain ⟨a1', b1', d1', z1'⟩ := keep_blk hb1 (g := w.heap.size + 1) (by repeat (first | assumption | exact heap_alloc_at _ (by first | rfl | (simp; done) | omega) | refine heap_alloc_of _ ?_ | refine heap_setCell_of _ (by first | omega | (simp; done) | (simp; omega)) ?_ | refine heap_setCell_same _ ?_ | exact heap_at1_same (by first | omega | (simp; done) | (simp; omega)) | refine heap_at1_of (by first | omega | (simp; done) | (simp; omega)) ?_))
  have t1 := hb0.trans (hb1.mono hb0.size)
  go_wp2_with fail
  go_ret
  exact ⟨rfl, t1⟩

set_option linter.unusedVariables false
set_option maxRecDepth 100000

theorem pd_one (r f n : Int) (FA : Option Addr) (fn fc : Nat) (KA : Option Addr) (kn kc : Nat) (TA : Option Addr) (tn tc : Nat) (g s z : Int) (b : Bool) : (pdC r f n FA fn fc KA kn kc TA tn tc g s z b).all (·.oneCell') = true := by simp [Value.oneCell']
theorem size_pd : (Tryz.prog.info? 37).map (·.size) = some 10 := by kernel_rfl
def ToPPost (w : World) (r f n : Int) (es : List Fl) (ks : List Lk) (ts : List Tn) (g s z : Int) (b : Bool) (e : Ending) (w' : World) : Prop :=
  ∃ FA fc' fs KA kc TA tc, e = .returned (pdV r f n FA es.length fc' KA ks.length kc TA ts.length tc g s z b) ∧ Hid (fs.map fc = es.map fc) ∧ DkO w' w.heap.size w'.heap.size FA fc' fs KA kc ks TA tc ts ∧ Below w.heap.size w w'
set_option maxHeartbeats 2000000 in
theorem toDepot_any (r f n : Int) (FA : Option Addr) (fs : List Fl) (fc' : Nat) (KA : Option Addr) (ks : List Lk) (kc : Nat) (TA : Option Addr) (ts : List Tn) (tc : Nat) (g s z : Int) (b : Bool) (w : World)
    (hF : Fs w FA fs) (hK : Ks w KA ks) (hT : Ts w TA ts) (hFl : fs.length ≤ 1048576) (hFm : ∀ e, e ∈ fs → e.2.1.2.2.length ≤ 1099511627776) (hKl : ks.length ≤ 1048576) (hTl : ts.length ≤ 1048576) :
    Calls Tryz.prog 8 #[pdV r f n FA fs.length fc' KA ks.length kc TA ts.length tc g s z b] w (ToPPost w r f n fs ks ts g s z b) := by
  have hb0 : Below w.heap.size w (((w.alloc (.cells (pdC r f n FA fs.length fc' KA ks.length kc TA ts.length tc g s z b) 28)).alloc (.cells (pdC 0 0 0 none 0 0 none 0 0 none 0 0 0 0 0 false) 37)).alloc (.cells (pdC 0 0 0 none 0 0 none 0 0 none 0 0 0 0 0 false) 37)) := by (repeat (first | exact Below.refl _ _ | (refine Below.alloc ?_ (by first | omega | (simp; done) | (simp; omega)) _) | (refine Below.drew ?_) | (refine below_drewN ?_ _) | (refine below_at1 ?_ (by first | omega | (simp; done) | (simp; omega))) | (refine Below.setCell ?_ (by first | omega | (simp; done) | (simp; omega)) _) | (refine Below.trans ?_ (Below.mono (by assumption) (by first | omega | (simp; done) | (simp; omega))))))
  go_enter Tryz.func8, Tryz.ntmps8
  go_wp2_with fail
  refine (toDisk_any r f n FA fs fc' KA ks kc TA ts tc _ (hF.below hb0) (SlL.below hK hb0) (SlL.below hT hb0) hFl hFm hKl hTl).mono ?_
  rintro e w2 ⟨A2, c2, fs2, K2, kk2, T2, t2', rfl, hd2, ho2, hb2⟩
  obtain ⟨a2, b2, d2, zz2⟩ := keep_blk hb2 (g := w.heap.size) (by repeat (first | assumption | exact heap_alloc_at _ (by first | rfl | (simp; done) | omega) | refine heap_alloc_of _ ?_ | refine heap_setCell_of _ (by first | omega | (simp; done) | (simp; omega)) ?_ | refine heap_setCell_same _ ?_ | exact heap_at1_same (by first | omega | (simp; done) | (simp; omega)) | refine heap_at1_of (by first | omega | (simp; done) | (simp; omega)) ?_))
  obtain ⟨a2', b2', d2', zz2'⟩ := keep_blk hb2 (g := w.heap.size + 1) (by repeat (first | assumption | exact heap_alloc_at _ (by first | rfl | (simp; done) | omega) | refine heap_alloc_of _ ?_ | refine heap_setCell_of _ (by first | omega | (simp; done) | (simp; omega)) ?_ | refine heap_setCell_same _ ?_ | exact heap_at1_same (by first | omega | (simp; done) | (simp; omega)) | refine heap_at1_of (by first | omega | (simp; done) | (simp; omega)) ?_))
  obtain ⟨a2'', b2'', d2'', zz2''⟩ := keep_blk hb2 (g := w.heap.size + 1 + 1) (by repeat (first | assumption | exact heap_alloc_at _ (by first | rfl | (simp; done) | omega) | refine heap_alloc_of _ ?_ | refine heap_setCell_of _ (by first | omega | (simp; done) | (simp; omega)) ?_ | refine heap_setCell_same _ ?_ | exact heap_at1_same (by first | omega | (simp; done) | (simp; omega)) | refine heap_at1_of (by first | omega | (simp; done) | (simp; omega)) ?_))
  have t2 := hb0.trans (hb2.mono hb0.size)
  have hD : DkO w2 (w.heap.size + 3) w2.heap.size A2 c2 fs2 K2 kk2 ks T2 t2' ts := ho2.lower (by simp)
  have s2 : w.heap.size + 3 ≤ w2.heap.size := zz2''
  clear hb2 hb0 ho2
  obtain ⟨v0, hv0⟩ : ∃ v0, Hid (v0 = w2.setCell ⟨w.heap.size + 1 + 1, 0, none⟩ (.int .i64 r)) := ⟨_, Lib.hid rfl⟩
  have e0 : v0.heap[w.heap.size + 1 + 1]? = some (.cells #[.int .i64 r, .int .i64 0, .int .i64 0, .slice none 0 0, .slice none 0 0, .slice none 0 0, .int .i64 0, .int .i64 0, .int .i64 0, .bool false] 37 (0, 0)) := by rw [hv0.out]; exact heap_setCell_same _ a2''
  have k0 : ∀ k, k ≠ w.heap.size + 1 + 1 → v0.heap[k]? = w2.heap[k]? := fun k hk => by rw [hv0.out]; exact (Below.heap_setCell _ _ _ k hk)
  have q0 : Below w.heap.size w v0 := by rw [hv0.out]; exact Below.setCell t2 (by simp; omega) _
  have z0 : v0.heap.size = w2.heap.size := by rw [hv0.out]; simp
  obtain ⟨v1, hv1⟩ : ∃ v1, Hid (v1 = v0.setCell ⟨w.heap.size + 1 + 1, 1, none⟩ (.int .i64 f)) := ⟨_, Lib.hid rfl⟩
  have e1 : v1.heap[w.heap.size + 1 + 1]? = some (.cells #[.int .i64 r, .int .i64 f, .int .i64 0, .slice none 0 0, .slice none 0 0, .slice none 0 0, .int .i64 0, .int .i64 0, .int .i64 0, .bool false] 37 (0, 0)) := by rw [hv1.out]; exact heap_setCell_same _ e0
  have k1 : ∀ k, k ≠ w.heap.size + 1 + 1 → v1.heap[k]? = w2.heap[k]? := fun k hk => by rw [hv1.out]; exact (Below.heap_setCell _ _ _ k hk).trans (k0 k hk)
  have q1 : Below w.heap.size w v1 := by rw [hv1.out]; exact Below.setCell q0 (by simp; omega) _
  have z1 : v1.heap.size = w2.heap.size := by rw [hv1.out]; simp [z0]
  obtain ⟨v2, hv2⟩ : ∃ v2, Hid (v2 = v1.setCell ⟨w.heap.size + 1 + 1, 2, none⟩ (.int .i64 n)) := ⟨_, Lib.hid rfl⟩
  have e2 : v2.heap[w.heap.size + 1 + 1]? = some (.cells #[.int .i64 r, .int .i64 f, .int .i64 n, .slice none 0 0, .slice none 0 0, .slice none 0 0, .int .i64 0, .int .i64 0, .int .i64 0, .bool false] 37 (0, 0)) := by rw [hv2.out]; exact heap_setCell_same _ e1
  have k2 : ∀ k, k ≠ w.heap.size + 1 + 1 → v2.heap[k]? = w2.heap[k]? := fun k hk => by rw [hv2.out]; exact (Below.heap_setCell _ _ _ k hk).trans (k1 k hk)
  have q2 : Below w.heap.size w v2 := by rw [hv2.out]; exact Below.setCell q1 (by simp; omega) _
  have z2 : v2.heap.size = w2.heap.size := by rw [hv2.out]; simp [z1]
  obtain ⟨v3, hv3⟩ : ∃ v3, Hid (v3 = v2.setCell ⟨w.heap.size + 1 + 1, 3, none⟩ (.slice A2 fs.length c2)) := ⟨_, Lib.hid rfl⟩
  have e3 : v3.heap[w.heap.size + 1 + 1]? = some (.cells #[.int .i64 r, .int .i64 f, .int .i64 n, .slice A2 fs.length c2, .slice none 0 0, .slice none 0 0, .int .i64 0, .int .i64 0, .int .i64 0, .bool false] 37 (0, 0)) := by rw [hv3.out]; exact heap_setCell_same _ e2
  have k3 : ∀ k, k ≠ w.heap.size + 1 + 1 → v3.heap[k]? = w2.heap[k]? := fun k hk => by rw [hv3.out]; exact (Below.heap_setCell _ _ _ k hk).trans (k2 k hk)
  have q3 : Below w.heap.size w v3 := by rw [hv3.out]; exact Below.setCell q2 (by simp; omega) _
  have z3 : v3.heap.size = w2.heap.size := by rw [hv3.out]; simp [z2]
  obtain ⟨v4, hv4⟩ : ∃ v4, Hid (v4 = v3.setCell ⟨w.heap.size + 1 + 1, 4, none⟩ (.slice K2 ks.length kk2)) := ⟨_, Lib.hid rfl⟩
  have e4 : v4.heap[w.heap.size + 1 + 1]? = some (.cells #[.int .i64 r, .int .i64 f, .int .i64 n, .slice A2 fs.length c2, .slice K2 ks.length kk2, .slice none 0 0, .int .i64 0, .int .i64 0, .int .i64 0, .bool false] 37 (0, 0)) := by rw [hv4.out]; exact heap_setCell_same _ e3
  have k4 : ∀ k, k ≠ w.heap.size + 1 + 1 → v4.heap[k]? = w2.heap[k]? := fun k hk => by rw [hv4.out]; exact (Below.heap_setCell _ _ _ k hk).trans (k3 k hk)
  have q4 : Below w.heap.size w v4 := by rw [hv4.out]; exact Below.setCell q3 (by simp; omega) _
  have z4 : v4.heap.size = w2.heap.size := by rw [hv4.out]; simp [z3]
  obtain ⟨v5, hv5⟩ : ∃ v5, Hid (v5 = v4.setCell ⟨w.heap.size + 1 + 1, 5, none⟩ (.slice T2 ts.length t2')) := ⟨_, Lib.hid rfl⟩
  have e5 : v5.heap[w.heap.size + 1 + 1]? = some (.cells #[.int .i64 r, .int .i64 f, .int .i64 n, .slice A2 fs.length c2, .slice K2 ks.length kk2, .slice T2 ts.length t2', .int .i64 0, .int .i64 0, .int .i64 0, .bool false] 37 (0, 0)) := by rw [hv5.out]; exact heap_setCell_same _ e4
  have k5 : ∀ k, k ≠ w.heap.size + 1 + 1 → v5.heap[k]? = w2.heap[k]? := fun k hk => by rw [hv5.out]; exact (Below.heap_setCell _ _ _ k hk).trans (k4 k hk)
  have q5 : Below w.heap.size w v5 := by rw [hv5.out]; exact Below.setCell q4 (by simp; omega) _
  have z5 : v5.heap.size = w2.heap.size := by rw [hv5.out]; simp [z4]
  obtain ⟨v6, hv6⟩ : ∃ v6, Hid (v6 = v5.setCell ⟨w.heap.size + 1 + 1, 6, none⟩ (.int .i64 g)) := ⟨_, Lib.hid rfl⟩
  have e6 : v6.heap[w.heap.size + 1 + 1]? = some (.cells #[.int .i64 r, .int .i64 f, .int .i64 n, .slice A2 fs.length c2, .slice K2 ks.length kk2, .slice T2 ts.length t2', .int .i64 g, .int .i64 0, .int .i64 0, .bool false] 37 (0, 0)) := by rw [hv6.out]; exact heap_setCell_same _ e5
  have k6 : ∀ k, k ≠ w.heap.size + 1 + 1 → v6.heap[k]? = w2.heap[k]? := fun k hk => by rw [hv6.out]; exact (Below.heap_setCell _ _ _ k hk).trans (k5 k hk)
  have q6 : Below w.heap.size w v6 := by rw [hv6.out]; exact Below.setCell q5 (by simp; omega) _
  have z6 : v6.heap.size = w2.heap.size := by rw [hv6.out]; simp [z5]
  obtain ⟨v7, hv7⟩ : ∃ v7, Hid (v7 = v6.setCell ⟨w.heap.size + 1 + 1, 7, none⟩ (.int .i64 s)) := ⟨_, Lib.hid rfl⟩
  have e7 : v7.heap[w.heap.size + 1 + 1]? = some (.cells #[.int .i64 r, .int .i64 f, .int .i64 n, .slice A2 fs.length c2, .slice K2 ks.length kk2, .slice T2 ts.length t2', .int .i64 g, .int .i64 s, .int .i64 0, .bool false] 37 (0, 0)) := by rw [hv7.out]; exact heap_setCell_same _ e6
  have k7 : ∀ k, k ≠ w.heap.size + 1 + 1 → v7.heap[k]? = w2.heap[k]? := fun k hk => by rw [hv7.out]; exact (Below.heap_setCell _ _ _ k hk).trans (k6 k hk)
  have q7 : Below w.heap.size w v7 := by rw [hv7.out]; exact Below.setCell q6 (by simp; omega) _
  have z7 : v7.heap.size = w2.heap.size := by rw [hv7.out]; simp [z6]
  obtain ⟨v8, hv8⟩ : ∃ v8, Hid (v8 = v7.setCell ⟨w.heap.size + 1 + 1, 8, none⟩ (.int .i64 z)) := ⟨_, Lib.hid rfl⟩
  have e8 : v8.heap[w.heap.size + 1 + 1]? = some (.cells #[.int .i64 r, .int .i64 f, .int .i64 n, .slice A2 fs.length c2, .slice K2 ks.length kk2, .slice T2 ts.length t2', .int .i64 g, .int .i64 s, .int .i64 z, .bool false] 37 (0, 0)) := by rw [hv8.out]; exact heap_setCell_same _ e7
  have k8 : ∀ k, k ≠ w.heap.size + 1 + 1 → v8.heap[k]? = w2.heap[k]? := fun k hk => by rw [hv8.out]; exact (Below.heap_setCell _ _ _ k hk).trans (k7 k hk)
  have q8 : Below w.heap.size w v8 := by rw [hv8.out]; exact Below.setCell q7 (by simp; omega) _
  have z8 : v8.heap.size = w2.heap.size := by rw [hv8.out]; simp [z7]
  obtain ⟨v9, hv9⟩ : ∃ v9, Hid (v9 = v8.setCell ⟨w.heap.size + 1 + 1, 9, none⟩ (.bool b)) := ⟨_, Lib.hid rfl⟩
  have e9 : v9.heap[w.heap.size + 1 + 1]? = some (.cells #[.int .i64 r, .int .i64 f, .int .i64 n, .slice A2 fs.length c2, .slice K2 ks.length kk2, .slice T2 ts.length t2', .int .i64 g, .int .i64 s, .int .i64 z, .bool b] 37 (0, 0)) := by rw [hv9.out]; exact heap_setCell_same _ e8
  have k9 : ∀ k, k ≠ w.heap.size + 1 + 1 → v9.heap[k]? = w2.heap[k]? := fun k hk => by rw [hv9.out]; exact (Below.heap_setCell _ _ _ k hk).trans (k8 k hk)
  have q9 : Below w.heap.size w v9 := by rw [hv9.out]; exact Below.setCell q8 (by simp; omega) _
  have z9 : v9.heap.size = w2.heap.size := by rw [hv9.out]; simp [z8]
  have VZ : v9.heap[w.heap.size + 1]? = some (.cells (pdC 0 0 0 none 0 0 none 0 0 none 0 0 0 0 0 false) 37 (0, 0)) := (k9 _ (by omega)).trans a2'
  have HZ := Lib.hid z9
  have hc : v9 = ((((((((((w2.setCell ⟨w.heap.size + 1 + 1, 0, none⟩ (.int .i64 r)).setCell ⟨w.heap.size + 1 + 1, 1, none⟩ (.int .i64 f)).setCell ⟨w.heap.size + 1 + 1, 2, none⟩ (.int .i64 n)).setCell ⟨w.heap.size + 1 + 1, 3, none⟩ (.slice A2 fs.length c2)).setCell ⟨w.heap.size + 1 + 1, 4, none⟩ (.slice K2 ks.length kk2)).setCell ⟨w.heap.size + 1 + 1, 5, none⟩ (.slice T2 ts.length t2')).setCell ⟨w.heap.size + 1 + 1, 6, none⟩ (.int .i64 g)).setCell ⟨w.heap.size + 1 + 1, 7, none⟩ (.int .i64 s)).setCell ⟨w.heap.size + 1 + 1, 8, none⟩ (.int .i64 z)).setCell ⟨w.heap.size + 1 + 1, 9, none⟩ (.bool b)) := by rw [hv9.out, hv8.out, hv7.out, hv6.out, hv5.out, hv4.out, hv3.out, hv2.out, hv1.out, hv0.out]
  have HC := Lib.hid hc
  clear hc e0 e1 e2 e3 e4 e5 e6 e7 e8 k0 k1 k2 k3 k4 k5 k6 k7 k8 q0 q1 q2 q3 q4 q5 q6 q7 q8 z0 z1 z2 z3 z4 z5 z6 z7 z8 z9 a2 a2' a2'' b2' d2'
  have UB : (v9.setRow (w.heap.size + 1) (pdC r f n A2 fs.length c2 K2 ks.length kk2 T2 ts.length t2' g s z b)).heap[w.heap.size + 1]? = some (.cells (pdC r f n A2 fs.length c2 K2 ks.length kk2 T2 ts.length t2' g s z b) 37 (0, 0)) := setRow_heap v9 _ (pdC 0 0 0 none 0 0 none 0 0 none 0 0 0 0 0 false) _ _ _ VZ
  have UO : ∀ k, k ≠ w.heap.size + 1 → (v9.setRow (w.heap.size + 1) (pdC r f n A2 fs.length c2 K2 ks.length kk2 T2 ts.length t2' g s z b)).heap[k]? = v9.heap[k]? := fun k hk => setRow_other v9 _ k _ hk
  have UG : v9.grownBy (v9.setRow (w.heap.size + 1) (pdC r f n A2 fs.length c2 K2 ks.length kk2 T2 ts.length t2' g s z b)) (some (w.heap.size + 1)) := ⟨rfl, rfl, rfl, by simp, fun i _ hne => setRow_other v9 _ i _ (by rintro rfl; exact hne rfl)⟩
  obtain ⟨u, hu⟩ : ∃ u, Hid (u = v9.setRow (w.heap.size + 1) (pdC r f n A2 fs.length c2 K2 ks.length kk2 T2 ts.length t2' g s z b)) := ⟨_, Lib.hid rfl⟩
  rw [← hu.out] at UB UO UG
  go_wp2_with (rw [← HC.out]; refine wpList_load_row rfl 37 _ rfl (w.heap.size + 1 + 1) rfl 37 (pdC r f n A2 fs.length c2 K2 ks.length kk2 T2 ts.length t2' g s z b) (0, 0) _ e9 Tryz.underlying37 rfl size_pd ?_; refine wpList_store_row rfl 37 _ _ rfl (w.heap.size + 1) (pdC r f n A2 fs.length c2 K2 ks.length kk2 T2 ts.length t2' g s z b) rfl rfl 37 (pdC 0 0 0 none 0 0 none 0 0 none 0 0 0 0 0 false) VZ size_pd rfl (pd_one _ _ _ _ _ _ _ _ _ _ _ _ _ _ _ _) ?_; rw [← hu.out]; clear HC e9 VZ b2 b2'' d2 d2'')
  refine bodyPost_ret (results_cell_row Tryz.results8 _ _ (w.heap.size + 1) 37 (pdC r f n A2 fs.length c2 K2 ks.length kk2 T2 ts.length t2' g s z b) (0, 0) _ rfl UB Tryz.underlying37 rfl size_pd) rfl ?_
  have hz := HZ.out
  have su : u.heap.size = w2.heap.size := by rw [hu.out]; simpa using hz
  refine ⟨A2, c2, fs2, K2, kk2, T2, t2', rfl, hd2, ?_, q9.grown UG (by omega) (by intro k hk; injection hk with hk; omega)⟩
  rw [su]
  refine DkO.lower (lo := w.heap.size + 3) (hD.keep fun k h1 h2 => ?_) (by omega)
  exact (UO k (by omega)).trans (k9 k (by omega))
end Go.Proofs.YtfkdifgmhfdbdaaGreatDoor
