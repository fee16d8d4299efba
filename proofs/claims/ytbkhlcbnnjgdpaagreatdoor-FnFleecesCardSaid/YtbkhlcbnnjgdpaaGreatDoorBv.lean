/- Contracts: the source of drawn numbers (next, pick, one, among): what it gives lies between two bounds; Contracts: a web that is drawn (A2Web), the small functions of the laws (a2Long, a2At, A2Same, A2Has); Contracts: heaps and fleeces that are drawn (P6Pick, l01Pile, P6Heap, l01Drawn), and f6big; Contracts: fleeces that are drawn (l01Drawn, P6Fleeces). -/
import Derived.Test.YtbkhlcbnnjgdpaaGreatDoorProg
import Derived.Test.YtbkhlcbnnjgdpaaGreatDoorBa
import Derived.IntWalk
import Derived.Test.YtbkhlcbnnjgdpaaGreatDoorBh
import Derived.Deep.RegionWith
import Derived.Deep.MidRow
namespace Go.Proofs.YtbkhlcbnnjgdpaaGreatDoor
open Go.RowKit
set_option linter.unusedVariables false
set_option linter.unusedSimpArgs false
/-- A source of drawn numbers at block g, made behind the world W0; K bounds how often it has been asked. -/
def Src (W0 w : World) (g : Nat) (K : Int) : Prop :=
  ∃ (A : Option Addr) (n c : Nat) (xs : List Int) (a s : Int), Rds W0 A n 1 (fun x : Int => [.int .u8 x]) xs ∧ (∀ x ∈ xs, 0 ≤ x ∧ x ≤ 255) ∧ W0.heap.size ≤ g ∧ Below W0.heap.size W0 w ∧
    Row w g 93 [.slice A n c, .int .i64 a, .int .u64 s] ∧ 0 ≤ a ∧ a ≤ K
/-- Nothing but block g is other than it was. -/
def Only (g : Nat) (w w' : World) : Prop := w.grownBy w' (some g) ∧ w'.heap.size = w.heap.size
theorem Only.refl (g : Nat) (w : World) : Only g w w := ⟨⟨rfl, rfl, rfl, Nat.le_refl _, fun _ _ _ => rfl⟩, rfl⟩
theorem Only.trans {g : Nat} {w w1 w2 : World} (h : Only g w w1) (k : Only g w1 w2) : Only g w w2 := ⟨grown_trans h.1 k.1, k.2.trans h.2⟩
theorem Only.set {g : Nat} {w w' : World} (h : Only g w w') (i : Nat) (v : Value) : Only g w (w'.setCell ⟨g, i, none⟩ v) :=
  ⟨⟨h.1.os, h.1.tape, h.1.output, by simpa [World.setCell] using h.1.size, fun k hk hne => by
    rw [heap_setCell_other _ _ _ _ (by intro e; exact hne (by rw [e]))]; exact h.1.block k hk hne⟩, by simpa [World.setCell] using h.2⟩
theorem Only.drew {g : Nat} {w w' : World} (h : Only g w w') : Only g w w'.drew := ⟨⟨h.1.os, h.1.tape, h.1.output, h.1.size, h.1.block⟩, h.2⟩
theorem Only.below {g B : Nat} {a w w' : World} (h : Only g w w') (hb : Below B a w) (hB : B ≤ g) (hs : B ≤ w.heap.size) : Below B a w' :=
  hb.grown h.1 hs (fun k hk => by cases hk; exact hB)
theorem Only.own {g b : Nat} {w w' : World} {e : TypeId} {s n : Nat} {v : Value} {xs : List Value} (h : Only g w w') (O : w.ownsRow b e s v n xs) (hb : g < b) : w'.ownsRow b e s v n xs :=
  own_apart (v' := .slice (some ⟨g, 0, none⟩) 0 0) O h.1 (fun k k' h1 h2 => by have h4 := (own_base O k h1).1; have h3 : g = k' := (by simpa [Value.ownBlock] using h2); omega)
theorem Only.row {g b : Nat} {w w' : World} {E : TypeId} {L : List Value} (h : Only g w w') (r : Row w b E L) (hne : b ≠ g) : Row w' b E L :=
  (h.1.block b r.lt (by intro e; exact hne (by cases e; rfl))).trans r
theorem u8_rng {x : Int} (h : (Lit.int .u8 x).wf = true) : 0 ≤ x ∧ x ≤ 255 := by simp [Lit.wf, IntKind.min, IntKind.max, IntKind.signed, IntKind.bits] at h; omega
theorem Src.drew {W0 w : World} {g : Nat} {K : Int} (h : Src W0 w g K) : Src W0 w.drew g K := by
  obtain ⟨A, n, c, xs, a, s, R, hx, hg, hB, hr, ha, haK⟩ := h
  exact ⟨A, n, c, xs, a, s, R, hx, hg, hB.drew, hr.drew, ha, haK⟩
theorem src_step {W0 w : World} {g n c : Nat} {K a s : Int} {A : Option Addr} {xs : List Int} (R : Rds W0 A n 1 (fun x : Int => [.int .u8 x]) xs) (hx : ∀ x ∈ xs, 0 ≤ x ∧ x ≤ 255) (hg : W0.heap.size ≤ g) (hB : Below W0.heap.size W0 w)
    (hr : Row w g 93 [.slice A n c, .int .i64 a, .int .u64 s]) (ha : 0 ≤ a) (haK : a ≤ K) (s' : Int) :
    Src W0 ((w.setCell ⟨g, 1, none⟩ (.int .i64 (a + 1))).setCell ⟨g, 2, none⟩ (.int .u64 s')) g (K + 1) ∧ Only g w ((w.setCell ⟨g, 1, none⟩ (.int .i64 (a + 1))).setCell ⟨g, 2, none⟩ (.int .u64 s')) :=
  ⟨⟨A, n, c, xs, a + 1, s', R, hx, hg, (hB.setCell hg _).setCell hg _, (hr.set 1 (.int .i64 (a + 1))).set 2 (.int .u64 s'), by omega, by omega⟩, ((Only.refl g w).set 1 _).set 2 _⟩
theorem seed_byte (z : Int) : 0 ≤ wrap64 (bits BinOp.and IntKind.u64 (IntKind.u64.wrap z / 1099511627776) 255) ∧ wrap64 (bits BinOp.and IntKind.u64 (IntKind.u64.wrap z / 1099511627776) 255) ≤ 255 := by
  have h0 : 0 ≤ IntKind.u64.wrap z ∧ IntKind.u64.wrap z < 18446744073709551616 := by
    unfold IntKind.wrap
    simp [IntKind.bits, IntKind.signed]
    omega
  generalize IntKind.u64.wrap z = y at h0
  have h := bits_mask .u64 63 (by decide) (fun n h₀ h₁ => by rw [IntKind.wrap_u64]; omega) 8 (by decide) (y / 1099511627776) (by omega) (by omega)
  have e : ((2 : Int) ^ 8 - 1) = 255 := by decide
  have e2 : ((2 : Int) ^ 8) = 256 := by decide
  rw [e, e2] at h
  rw [h]
  have h1 : 0 ≤ y / 1099511627776 % 256 ∧ y / 1099511627776 % 256 < 256 := by omega
  generalize y / 1099511627776 % 256 = x at h1
  have h2 : wrap64 x = x := by unfold wrap64; omega
  rw [h2]
  omega
theorem next_any (W0 w : World) (g : Nat) (K : Int) (h : Src W0 w g K) (hK : K ≤ 1000000000) :
    Calls Tryz.prog 63 #[.pointer (some ⟨g, 0, none⟩)] w fun e w' => ∃ b : Int, e = .returned (.int .i64 b) ∧ 0 ≤ b ∧ b ≤ 255 ∧ Src W0 w' g (K + 1) ∧ Only g w w' := by
  obtain ⟨A, n, c, xs, a, s, R, hx, hg, hB, hr, ha, haK⟩ := h
  have HX := Lib.hid hx; have HB := Lib.hid hB; clear hx hB
  obtain ⟨c0, c1, c2⟩ := hr.cells3
  obtain ⟨f0, f1, f2⟩ := hr.frozens3
  have hn := R.2.1
  have v1 : IntKind.i64.wrap (a + 1) = a + 1 := IntWalk.i64_in _ (by omega)
  by_cases hlt : a < n
  · obtain ⟨k, rfl⟩ : ∃ k : Nat, a = (k : Int) := ⟨a.toNat, by omega⟩
    obtain ⟨ad, x, rfl, hx, e0⟩ := (R.below HB.out).at1 (show k < n by omega)
    have hxb := HX.out x (List.mem_of_getElem? hx)
    clear hx
    go_enter Tryz.func63, Tryz.ntmps63
    go_wp2_with fail
    go_region
    all_goals go_wp2_with fail
    go_region
    all_goals go_wp2_with fail
    go_region
    all_goals go_wp2_with fail
    all_goals go_ret
    all_goals exact ⟨x, rfl, hxb.1, hxb.2, (src_step R HX.out hg HB.out hr ha haK _).1.drew.drew.drew, (src_step R HX.out hg HB.out hr ha haK _).2.drew.drew.drew⟩
  · go_enter Tryz.func63, Tryz.ntmps63
    go_wp2_with fail
    go_region
    all_goals go_wp2_with fail
    go_region
    all_goals go_wp2_with fail
    all_goals go_ret
    all_goals exact ⟨_, rfl, (seed_byte _).1, (seed_byte _).2, (src_step R HX.out hg HB.out hr ha haK _).1.drew.drew, (src_step R HX.out hg HB.out hr ha haK _).2.drew.drew⟩
theorem pick_any (W0 w : World) (g : Nat) (K n : Int) (h : Src W0 w g K) (hK : K ≤ 1000000) (hn : n ≤ 60000) :
    Calls Tryz.prog 35 #[.pointer (some ⟨g, 0, none⟩), .int .i64 n] w fun e w' => ∃ b : Int, e = .returned (.int .i64 b) ∧ 0 ≤ b ∧ (1 < n → b < n) ∧ (n ≤ 1 → b = 0) ∧ Src W0 w' g (K + 2) ∧ Only g w w' := by
  by_cases h1 : n ≤ 1
  · go_enter Tryz.func35, Tryz.ntmps35
    go_wp2_with fail
    go_ret
    obtain ⟨A, m, c, xs, a, s, R, hx, hg, hB, hr, ha, haK⟩ := h
    exact ⟨0, rfl, by omega, by omega, fun _ => rfl, ⟨A, m, c, xs, a, s, R, hx, hg, hB, hr, ha, by omega⟩, Only.refl _ _⟩
  · have hn0 : ¬ n = 0 := by omega
    by_cases h2 : 200 < n
    · go_enter Tryz.func35, Tryz.ntmps35
      go_wp2_with fail
      refine (next_any W0 _ g K h (by omega)).mono ?_
      rintro e w1 ⟨b1, rfl, hb1, hb1', S1, O1⟩
      go_wp2_with fail
      refine (next_any W0 _ g (K + 1) S1 (by omega)).mono ?_
      rintro e w2 ⟨b2, rfl, hb2, hb2', S2, O2⟩
      have v1 : IntKind.i64.wrap (b1 * 256) = b1 * 256 := IntWalk.i64_in _ (by omega)
      have v2 : IntKind.i64.wrap (b1 * 256 + b2) = b1 * 256 + b2 := IntWalk.i64_in _ (by omega)
      have v3 := Int.emod_nonneg (b1 * 256 + b2) hn0
      have v4 := Int.emod_lt_of_pos (b1 * 256 + b2) (show 0 < n by omega)
      go_wp2_with fail
      go_ret
      exact ⟨(b1 * 256 + b2) % n, by rfl, v3, fun _ => v4, by omega, by rw [show K + 2 = K + 1 + 1 by omega]; exact S2, O1.trans O2⟩
    · go_enter Tryz.func35, Tryz.ntmps35
      go_wp2_with fail
      refine (next_any W0 _ g K h (by omega)).mono ?_
      rintro e w1 ⟨b1, rfl, hb1, hb1', S1, O1⟩
      have v3 := Int.emod_nonneg b1 hn0
      have v4 := Int.emod_lt_of_pos b1 (show 0 < n by omega)
      go_wp2_with fail
      go_ret
      obtain ⟨A, m, c, xs, a, s, R, hx, hg, hB, hr, ha, haK⟩ := S1
      exact ⟨b1 % n, by rfl, v3, fun _ => v4, by omega, ⟨A, m, c, xs, a, s, R, hx, hg, hB, hr, ha, by omega⟩, O1⟩
end Go.Proofs.YtbkhlcbnnjgdpaaGreatDoor
namespace Go.Proofs.YtbkhlcbnnjgdpaaGreatDoor
open Go.RowKit
set_option linter.unusedVariables false
set_option linter.unusedSimpArgs false
theorem Src.below {W0 w w' : World} {g b : Nat} {K : Int} (h : Src W0 w g K) (hb : Below b w w') (hg : g < b) : Src W0 w' g K := by
  obtain ⟨A, n, c, xs, a, s, R, hx, hg0, hB, hr, ha, haK⟩ := h
  exact ⟨A, n, c, xs, a, s, R, hx, hg0, hB.trans (hb.mono (by omega)), (hb.block g hg).trans hr, ha, haK⟩
theorem Src.le {W0 w : World} {g : Nat} {K K' : Int} (h : Src W0 w g K) (hK : K ≤ K') : Src W0 w g K' := by
  obtain ⟨A, n, c, xs, a, s, R, hx, hg0, hB, hr, ha, haK⟩ := h
  exact ⟨A, n, c, xs, a, s, R, hx, hg0, hB, hr, ha, by omega⟩
theorem Src.lt {W0 w : World} {g : Nat} {K : Int} (h : Src W0 w g K) : g < w.heap.size := by
  obtain ⟨A, n, c, xs, a, s, R, hx, hg0, hB, hr, ha, haK⟩ := h
  exact hr.lt
theorem Src.old {W0 w : World} {g : Nat} {K : Int} (h : Src W0 w g K) : Below W0.heap.size W0 w ∧ W0.heap.size ≤ g := by
  obtain ⟨A, n, c, xs, a, s, R, hx, hg0, hB, hr, ha, haK⟩ := h
  exact ⟨hB, hg0⟩
theorem src_from (A : Option Addr) (n c : Nat) (xs : List Int) (w : World) (R : Rds w A n 1 (fun x : Int => [.int .u8 x]) xs) (hx : ∀ x ∈ xs, (Lit.int .u8 x).wf = true) :
    Calls Tryz.prog 34 #[.slice A n c] w fun e w' => ∃ g : Nat, e = .returned (.pointer (some ⟨g, 0, none⟩)) ∧ Src w w' g 0 := by
  go_enter Tryz.func34, Tryz.ntmps34
  go_wp2_with fail
  go_ret
  exact ⟨w.heap.size, rfl, A, n, c, xs, 0, 0, R, fun x h => u8_rng (hx x h), Nat.le_refl _, below_alloc1 w _, Row.alloc w [.slice A n c, .int .i64 0, .int .u64 0] 93, by omega, by omega⟩
theorem all_snoc {ys : List Int} {z lo hi : Int} (h : ∀ y ∈ ys, lo ≤ y ∧ y ≤ hi) (hz : lo ≤ z ∧ z ≤ hi) : ∀ y ∈ ys ++ [z], lo ≤ y ∧ y ≤ hi := by
  intro y hy
  rcases List.mem_append.1 hy with hy | hy
  · exact h y hy
  · rw [List.mem_singleton.1 hy]; exact hz
end Go.Proofs.YtbkhlcbnnjgdpaaGreatDoor
namespace Go.Proofs.YtbkhlcbnnjgdpaaGreatDoor
open Go.RowKit
set_option linter.unusedVariables false
set_option linter.unusedSimpArgs false
theorem f6big_any (A : Option Addr) (n c : Nat) (w : World) : Calls Tryz.prog 4 #[.slice A n c] w fun e w' => e = .returned (.bool (decide (4096 < n))) ∧ w' = w := by
  by_cases h : 4096 < n
  · have hi : (4096 : Int) < (n : Int) := by omega
    have E := Lib.hid (decide_eq_true h)
    clear h
    go_enter Tryz.func4, Tryz.ntmps4
    go_wp2_with fail
    go_ret
    exact ⟨by rw [E.out]; rfl, rfl⟩
  · have hi : ¬ (4096 : Int) < (n : Int) := by omega
    have E := Lib.hid (decide_eq_false h)
    clear h
    go_enter Tryz.func4, Tryz.ntmps4
    go_wp2_with fail
    go_ret
    exact ⟨by rw [E.out]; rfl, rfl⟩
theorem p6Pick_any (A : Option Addr) (n c : Nat) (xs : List Int) (m : Int) (w : World) (R : Rds w A n 1 (fun x : Int => [.int .u8 x]) xs) (hx : ∀ x ∈ xs, (Lit.int .u8 x).wf = true) (hm : m ≤ 60000) :
    Calls Tryz.prog 7 #[.slice A n c, .int .i64 m] w fun e w' => ∃ b : Int, e = .returned (.int .i64 b) ∧ 0 ≤ b ∧ (1 < m → b < m) ∧ (m ≤ 1 → b = 0) ∧ Below w.heap.size w w' := by
  go_enter Tryz.func7, Tryz.ntmps7
  go_wp2_with fail
  refine (src_from A n c xs _ R hx).mono ?_
  rintro e w1 ⟨g, rfl, S⟩
  go_wp2_with fail
  refine (pick_any _ _ g 0 m S (by omega) hm).mono ?_
  rintro e w2 ⟨b, rfl, h0, h1, h2, S2, _⟩
  go_wp2_with fail
  go_ret
  exact ⟨b, rfl, h0, h1, h2, S2.old.1⟩
theorem set_i32 (L : List Int) (k : Nat) (v : Int) : (nums .i32 L).set k (.int .i32 v) = nums .i32 (L.set k v) := by
  apply List.ext_getElem?
  intro i
  by_cases h : i = k
  · subst h
    by_cases h2 : i < L.length
    · rw [List.getElem?_set_self (by simpa [nums] using h2)]
      simp [nums, h2]
    · rw [List.getElem?_eq_none (by simp [nums]; omega), List.getElem?_eq_none (by simp [nums]; omega)]
  · rw [List.getElem?_set_ne (by omega)]
    simp [nums, List.getElem?_set, show ¬ k = i from fun e => h e.symm]
theorem eight_of {L : List Int} (h : L.length = 8) : ∃ a0 a1 a2 a3 a4 a5 a6 a7, L = [a0, a1, a2, a3, a4, a5, a6, a7] := by
  match L, h with
  | [a0, a1, a2, a3, a4, a5, a6, a7], _ => exact ⟨_, _, _, _, _, _, _, _, rfl⟩
theorem Src.grown0 {W0 w w' : World} {g : Nat} {K : Int} (h : Src W0 w g K) : w.grownBy w' none → Src W0 w' g K := fun hg =>
  h.below (b := w.heap.size) ⟨hg.os, hg.tape, hg.output, hg.size, fun k hk => hg.block k hk (by simp)⟩ h.lt
theorem grown_alloc2 {w w' : World} {g : Nat} (h : w.grownBy w' (some g)) (o : Obj) : w.grownBy (w'.alloc o) (some g) := grown_trans h (World.grownBy_alloc w' o _)
theorem res8p (t : Array Value) (w : World) (b : Nat) {a0 a1 a2 a3 a4 a5 a6 a7 : Int} (h2 : t[2]?.getD undef = .pointer (some ⟨b, 0, none⟩)) (S : Row w b 25 [.int .i32 a0, .int .i32 a1, .int .i32 a2, .int .i32 a3, .int .i32 a4, .int .i32 a5, .int .i32 a6, .int .i32 a7]) :
    (results Tryz.f33 t).run Tryz.prog w = .ok (.agg #[.int .i32 a0, .int .i32 a1, .int .i32 a2, .int .i32 a3, .int .i32 a4, .int .i32 a5, .int .i32 a6, .int .i32 a7]) w := by
  obtain ⟨s0, s1, s2, s3, s4, s5, s6, s7⟩ := S.cells8
  simp [results, Tryz.results33, go_sem, h2, s0, s1, s2, s3, s4, s5, s6, s7]
theorem res8h (t : Array Value) (w : World) (b : Nat) {a0 a1 a2 a3 a4 a5 a6 a7 : Int} (h2 : t[2]?.getD undef = .pointer (some ⟨b, 0, none⟩)) (S : Row w b 25 [.int .i32 a0, .int .i32 a1, .int .i32 a2, .int .i32 a3, .int .i32 a4, .int .i32 a5, .int .i32 a6, .int .i32 a7]) :
    (results Tryz.f5 t).run Tryz.prog w = .ok (.agg #[.int .i32 a0, .int .i32 a1, .int .i32 a2, .int .i32 a3, .int .i32 a4, .int .i32 a5, .int .i32 a6, .int .i32 a7]) w := by
  obtain ⟨s0, s1, s2, s3, s4, s5, s6, s7⟩ := S.cells8
  simp [results, Tryz.results5, go_sem, h2, s0, s1, s2, s3, s4, s5, s6, s7]
set_option maxHeartbeats 2000000 in
theorem pile_any (W0 w : World) (g : Nat) (K : Int) (S : Src W0 w g K) (hK0 : 0 ≤ K) (hK : K ≤ 1000) :
    Calls Tryz.prog 33 #[.pointer (some ⟨g, 0, none⟩)] w fun e w' => ∃ a0 a1 a2 a3 a4 a5 a6 a7, e = .returned (.agg #[.int .i32 a0, .int .i32 a1, .int .i32 a2, .int .i32 a3, .int .i32 a4, .int .i32 a5, .int .i32 a6, .int .i32 a7]) ∧
      (∀ y ∈ [a0, a1, a2, a3, a4, a5, a6, a7], 0 ≤ y ∧ y ≤ 12) ∧ Src W0 w' g (K + 22) ∧ w.grownBy w' (some g) := by
  have hgw := S.lt
  have X2 := Row.alloc w [.int .i32 0, .int .i32 0, .int .i32 0, .int .i32 0, .int .i32 0, .int .i32 0, .int .i32 0, .int .i32 0] 25
  have X3 := Row.alloc (w.alloc (.cells #[.int .i32 0, .int .i32 0, .int .i32 0, .int .i32 0, .int .i32 0, .int .i32 0, .int .i32 0, .int .i32 0] 25)) [.int .i32 0, .int .i32 0, .int .i32 0, .int .i32 0, .int .i32 0, .int .i32 0, .int .i32 0, .int .i32 0] 25
  rw [World.size_alloc] at X3
  replace X2 := Lib.hid (X2.below (below_alloc1 _ (.cells #[.int .i32 0, .int .i32 0, .int .i32 0, .int .i32 0, .int .i32 0, .int .i32 0, .int .i32 0, .int .i32 0] 25)))
  replace X3 := Lib.hid X3
  have S1 := (S.grown0 (World.grownBy_alloc w (.cells #[.int .i32 0, .int .i32 0, .int .i32 0, .int .i32 0, .int .i32 0, .int .i32 0, .int .i32 0, .int .i32 0] 25) none)).grown0 (World.grownBy_alloc _ (.cells #[.int .i32 0, .int .i32 0, .int .i32 0, .int .i32 0, .int .i32 0, .int .i32 0, .int .i32 0, .int .i32 0] 25) none)
  have G0 := Lib.hid (grown_alloc2 (World.grownBy_alloc w (.cells #[.int .i32 0, .int .i32 0, .int .i32 0, .int .i32 0, .int .i32 0, .int .i32 0, .int .i32 0, .int .i32 0] 25) (some g)) (.cells #[.int .i32 0, .int .i32 0, .int .i32 0, .int .i32 0, .int .i32 0, .int .i32 0, .int .i32 0, .int .i32 0] 25))
  go_enter Tryz.func33, Tryz.ntmps33
  go_wp2_with fail
  obtain ⟨wa, hwa⟩ : ∃ x, x = (w.alloc (.cells #[.int .i32 0, .int .i32 0, .int .i32 0, .int .i32 0, .int .i32 0, .int .i32 0, .int .i32 0, .int .i32 0] 25)).alloc (.cells #[.int .i32 0, .int .i32 0, .int .i32 0, .int .i32 0, .int .i32 0, .int .i32 0, .int .i32 0, .int .i32 0] 25) := ⟨_, rfl⟩
  rw [← hwa] at X2 X3 S1 G0 ⊢
  clear hwa
  refine (pick_any W0 _ g K 6 S1 (by omega) (by omega)).mono ?_
  rintro e w1 ⟨m, rfl, hm0, hm1, _, S2, N2⟩
  have hm5 : m ≤ 5 := by have := hm1 (by omega); omega
  replace X2 := Lib.hid (N2.row X2.out (by omega))
  replace X3 := Lib.hid (N2.row X3.out (by omega))
  replace G0 := Lib.hid (grown_trans G0.out N2.1)
  obtain ⟨M, rfl⟩ : ∃ M : Nat, m = (M : Int) := ⟨m.toNat, by omega⟩
  clear hm0 hm1 N2 S1
  have S3 := Lib.hid (S2.le (show K + 2 ≤ K + 22 - 4 * (M : Int) by omega))
  clear S2 S
  go_wp2_with fail
  go_loopw [4] (fun v wr => ∃ (k : Nat) (L : List Int), k ≤ 5 ∧ v = .int .i64 k ∧ L.length = 8 ∧ Hid (∀ y ∈ L, 0 ≤ y ∧ y ≤ 12) ∧ Hid (Row wr (w.heap.size + 1) 25 (nums .i32 L)) ∧ Hid (Row wr w.heap.size 25 [.int .i32 0, .int .i32 0, .int .i32 0, .int .i32 0, .int .i32 0, .int .i32 0, .int .i32 0, .int .i32 0]) ∧ Hid (Src W0 wr g (K + 22 - 4 * (k : Int))) ∧ Hid (w.grownBy wr (some g))) (fun v _ => (intOf v).toNat)
  case atStart => exact ⟨M, [0, 0, 0, 0, 0, 0, 0, 0], by omega, rfl, rfl, Lib.hid (by simp), X3, X2, S3, G0⟩
  case round =>
    clear X2 X3 S3 G0 hm5
    obtain ⟨k, L, hk, rfl, hL, HLB, X3, X2, S, G⟩ := hrel
    by_cases hlt : 0 < k
    · have hki : (0 : Int) < (k : Int) := by omega
      go_wp2_with fail
      refine (pick_any W0 _ g _ 8 S.out (by omega) (by omega)).mono ?_
      rintro e w2 ⟨at_, rfl, ha0, ha1, _, S2, N2⟩
      have ha7 : at_ < 8 := ha1 (by omega)
      obtain ⟨q, rfl⟩ : ∃ q : Nat, at_ = (q : Int) := ⟨at_.toNat, by omega⟩
      have hq : q < 8 := by omega
      replace X2 := Lib.hid (N2.row X2.out (by omega))
      replace X3 := Lib.hid (N2.row X3.out (by omega))
      replace G := Lib.hid (grown_trans G.out N2.1)
      clear ha0 ha1 N2 S
      obtain ⟨y, hy⟩ : ∃ y, L[q]? = some y := ⟨_, List.getElem?_eq_getElem (by omega)⟩
      have hyb := HLB.out y (List.mem_of_getElem? hy)
      have hc : w2.cell? ⟨w.heap.size + 1, q, none⟩ = some (.int .i32 y) := by rw [X3.out.cell, nums_get, hy]; rfl
      have hf := X3.out.frozen q
      have HC := Lib.hid hc
      have v1 : IntKind.i64.wrap y = y := IntWalk.i64_in _ (by omega)
      have v2 : IntKind.i64.wrap (y + 1) = y + 1 := IntWalk.i64_in _ (by omega)
      have S2H := Lib.hid S2
      clear hy
      have HP : Hid (Calls Tryz.prog 35 #[.pointer (some ⟨g, 0, none⟩), .int .i64 12] w2.drew (fun e w3 => ∃ z : Int, e = .returned (.int .i64 z) ∧ 0 ≤ z ∧ z < 12 ∧ Hid (Src W0 w3 g (K + 22 - 4 * (k : Int) + 2 + 2)) ∧ Hid (Row w3 (w.heap.size + 1) 25 (nums .i32 L)) ∧ Hid (Row w3 w.heap.size 25 [.int .i32 0, .int .i32 0, .int .i32 0, .int .i32 0, .int .i32 0, .int .i32 0, .int .i32 0, .int .i32 0]) ∧ Hid (w.grownBy w3 (some g)) ∧ w3.cell? ⟨w.heap.size + 1, q, none⟩ = some (.int .i32 y) ∧ w3.frozen? ⟨w.heap.size + 1, q, none⟩ = false ∧ IntKind.i64.wrap (y + 1 + z) = y + 1 + z)) := Lib.hid ((pick_any W0 _ g _ 12 S2H.out.drew (by omega) (by omega)).mono (fun e w3 h => by
        obtain ⟨z, h1, hz0, hz1, _, S3, N3⟩ := h
        have X3b : Row w3 (w.heap.size + 1) 25 (nums .i32 L) := N3.row (show Row w2.drew _ _ _ from X3.out) (by omega)
        have X2b := N3.row (show Row w2.drew w.heap.size 25 _ from X2.out) (by omega)
        have G2 : w.grownBy w2.drew (some g) := ⟨G.out.os, G.out.tape, G.out.output, G.out.size, G.out.block⟩
        exact ⟨z, h1, hz0, hz1 (by omega), Lib.hid S3, Lib.hid X3b, Lib.hid X2b, Lib.hid (grown_trans G2 N3.1), (X3b.cell q).trans ((X3.out.cell q).symm.trans HC.out), X3b.frozen q, IntWalk.i64_in _ (by have := hz1 (by omega); omega)⟩))
      clear S2 S2H
      go_wp2_with fail
      go_region_with (first
        | (go_at_call 35; refine HP.out.mono ?_; rintro e w3 ⟨z, rfl, hz0, hz12, S3, X3b, X2b, G3, hc3, hf3, v3⟩)
        | (go_at_call 44; refine (l00Min_any _ _ _).mono ?_; rintro e w4 ⟨rfl, rfl⟩))
      all_goals
        obtain ⟨u, hu⟩ : ∃ u, min 12 (y + 1 + z) = u := ⟨_, rfl⟩
        have hub : 0 ≤ u ∧ u ≤ 12 := by omega
        have v4 : IntKind.i32.wrap u = u := IntWalk.i32_in _ (by omega)
        rw [hu, v4]
        have vk : IntKind.i64.wrap ((k : Int) - 1) = ((k - 1 : Nat) : Int) := (IntWalk.i64_in _ (by omega)).trans (by omega)
        have S4 : Hid (Src W0 (w3.setCell ⟨w.heap.size + 1, q, none⟩ (.int .i32 u)) g (K + 22 - 4 * ((k - 1 : Nat) : Int))) := Lib.hid ((S3.out.le (by omega)).below (b := w.heap.size) (((Below.refl w.heap.size w3)).setCell (p := ⟨w.heap.size + 1, q, none⟩) (by simp) _) hgw)
        have X4 : Hid (Row (w3.setCell ⟨w.heap.size + 1, q, none⟩ (.int .i32 u)) (w.heap.size + 1) 25 (nums .i32 (L.set q u))) := Lib.hid (by rw [← set_i32]; exact X3b.out.set q _)
        have Y4 := Lib.hid (X2b.out.apart (C := w.heap.size + 1) (by omega) q (.int .i32 u))
        have G4 : Hid (w.grownBy (w3.setCell ⟨w.heap.size + 1, q, none⟩ (.int .i32 u)) (some g)) := Lib.hid ⟨G3.out.os, G3.out.tape, G3.out.output, by rw [World.size_setCell]; exact G3.out.size, fun j hj hne => (Below.heap_setCell w3 _ _ j (by simp; omega)).trans (G3.out.block j hj hne)⟩
        have HLB2 : Hid (∀ t ∈ L.set q u, 0 ≤ t ∧ t ≤ 12) := Lib.hid (fun t ht => by
          rcases List.mem_or_eq_of_mem_set ht with h | h
          · exact HLB.out t h
          · rw [h]; exact hub)
        clear hu v1 v2 v3 v4 hc3 hf3 hc hf HC S3 X3b X2b G3
        go_wp2_with fail
        go_roundw
        case rel => exact ⟨k - 1, L.set q u, by omega, by go_num, by rw [List.length_set]; exact hL, HLB2, X4, Y4, S4, G4⟩
        case measure => simp [intOf]; omega
    · obtain rfl : k = 0 := by omega
      obtain ⟨a0, a1, a2, a3, a4, a5, a6, a7, rfl⟩ := eight_of hL
      have RG := X3.out.rangeAt
      have gH := heap_size
      go_upto_region 7 with fail
      apply wp_region_lit
      refine wpList_load_mid (by rfl) _ _ (by rfl) (w.heap.size + 1) 0 (by rfl) [.int .i32 a0, .int .i32 a1, .int .i32 a2, .int .i32 a3, .int .i32 a4, .int .i32 a5, .int .i32 a6, .int .i32 a7] _ RG heap_type (by rfl) gH ?_
      simp only [Act.put, List.setIfInBounds_toArray, List.set_cons_zero, List.set_cons_succ]
      refine wpList_store_mid (by rfl) _ _ _ (by rfl) w.heap.size 0 (List.toArray [.int .i32 a0, .int .i32 a1, .int .i32 a2, .int .i32 a3, .int .i32 a4, .int .i32 a5, .int .i32 a6, .int .i32 a7]) (by rfl) (by rfl) (X2.out.there rfl) gH (one8 _ _ _ _ _ _ _ _) ?_
      have S8 := X2.out.setAll [.int .i32 a0, .int .i32 a1, .int .i32 a2, .int .i32 a3, .int .i32 a4, .int .i32 a5, .int .i32 a6, .int .i32 a7] rfl
      have hBB := below_setCells (b := w.heap.size) (C := w.heap.size) (Nat.le_refl _) [.int .i32 a0, .int .i32 a1, .int .i32 a2, .int .i32 a3, .int .i32 a4, .int .i32 a5, .int .i32 a6, .int .i32 a7] 0 (Below.refl w.heap.size wr)
      simp only [List.toList_toArray]
      generalize World.setCells _ w.heap.size 0 [.int .i32 a0, .int .i32 a1, .int .i32 a2, .int .i32 a3, .int .i32 a4, .int .i32 a5, .int .i32 a6, .int .i32 a7] = ww at S8 hBB ⊢
      have SF := Lib.hid ((S.out.below hBB hgw).le (show K + 22 - 4 * ((0 : Nat) : Int) ≤ K + 22 by omega))
      have GF : Hid (w.grownBy ww (some g)) := Lib.hid ⟨hBB.os.trans G.out.os, hBB.tape.trans G.out.tape, hBB.output.trans G.out.output, Nat.le_trans G.out.size hBB.size, fun j hj hne => (hBB.block j hj).trans (G.out.block j hj hne)⟩
      clear X3 X2 RG S G hBB
      go_wp2_with fail
      refine bodyPost_ret (res8p _ _ w.heap.size rfl S8) rfl ⟨a0, a1, a2, a3, a4, a5, a6, a7, rfl, HLB.out, SF.out, GF.out⟩
theorem p6Heap_any (A : Option Addr) (n c : Nat) (xs : List Int) (w : World) (R : Rds w A n 1 (fun x : Int => [.int .u8 x]) xs) (hx : ∀ x ∈ xs, (Lit.int .u8 x).wf = true) :
    Calls Tryz.prog 5 #[.slice A n c] w fun e w' => ∃ a0 a1 a2 a3 a4 a5 a6 a7, e = .returned (.agg #[.int .i32 a0, .int .i32 a1, .int .i32 a2, .int .i32 a3, .int .i32 a4, .int .i32 a5, .int .i32 a6, .int .i32 a7]) ∧
      (∀ y ∈ [a0, a1, a2, a3, a4, a5, a6, a7], 0 ≤ y ∧ y ≤ 12) ∧ Below w.heap.size w w' := by
  have X2 := Lib.hid (Row.alloc w [.int .i32 0, .int .i32 0, .int .i32 0, .int .i32 0, .int .i32 0, .int .i32 0, .int .i32 0, .int .i32 0] 25)
  have HB := Lib.hid (below_alloc1 w (.cells #[.int .i32 0, .int .i32 0, .int .i32 0, .int .i32 0, .int .i32 0, .int .i32 0, .int .i32 0, .int .i32 0] 25))
  have RR := Lib.hid (R.below HB.out)
  go_enter Tryz.func5, Tryz.ntmps5
  go_wp2_with fail
  refine (src_from A n c xs _ RR.out hx).mono ?_
  rintro e w1 ⟨g, rfl, S⟩
  have hg := S.old
  rw [World.size_alloc] at hg
  replace X2 := Lib.hid (X2.out.below (hg.1.mono (by rw [World.size_alloc]; exact Nat.le_refl _)))
  replace HB := Lib.hid (below_then HB.out (by rw [World.size_alloc]; omega) (hg.1.mono (by rw [World.size_alloc]; exact Nat.le_refl _)))
  go_wp2_with fail
  refine (pile_any _ _ g 0 S (by omega) (by omega)).mono ?_
  rintro e w2 ⟨a0, a1, a2, a3, a4, a5, a6, a7, rfl, hb, S2, G⟩
  have X3 : Hid (Row w2 w.heap.size 25 [.int .i32 0, .int .i32 0, .int .i32 0, .int .i32 0, .int .i32 0, .int .i32 0, .int .i32 0, .int .i32 0]) := Lib.hid ((G.block _ X2.out.lt (by intro e; cases e; omega)).trans X2.out)
  have HB2 := Lib.hid (HB.out.grown G HB.out.size (fun k e => by cases e; omega))
  have HBD := Lib.hid hb
  clear X2 HB S S2 G hb RR
  have gH := heap_size
  go_wp2_with (refine wpList_store_mid (by rfl) _ _ _ (by rfl) w.heap.size 0 (List.toArray [.int .i32 a0, .int .i32 a1, .int .i32 a2, .int .i32 a3, .int .i32 a4, .int .i32 a5, .int .i32 a6, .int .i32 a7]) (by rfl) (by rfl) (X3.out.there rfl) gH (one8 _ _ _ _ _ _ _ _) ?_; have S8 := X3.out.setAll [.int .i32 a0, .int .i32 a1, .int .i32 a2, .int .i32 a3, .int .i32 a4, .int .i32 a5, .int .i32 a6, .int .i32 a7] rfl; have hBB := below_setCells (b := w.heap.size) (C := w.heap.size) (Nat.le_refl _) [.int .i32 a0, .int .i32 a1, .int .i32 a2, .int .i32 a3, .int .i32 a4, .int .i32 a5, .int .i32 a6, .int .i32 a7] 0 HB2.out; simp only [List.toList_toArray]; generalize World.setCells _ w.heap.size 0 [.int .i32 a0, .int .i32 a1, .int .i32 a2, .int .i32 a3, .int .i32 a4, .int .i32 a5, .int .i32 a6, .int .i32 a7] = ww at S8 hBB ⊢)
  refine bodyPost_ret (res8h _ _ w.heap.size rfl S8) rfl ⟨a0, a1, a2, a3, a4, a5, a6, a7, rfl, HBD.out, hBB⟩
end Go.Proofs.YtbkhlcbnnjgdpaaGreatDoor
namespace Go.Proofs.YtbkhlcbnnjgdpaaGreatDoor
open Go.RowKit
set_option linter.unusedVariables false
set_option linter.unusedSimpArgs false
theorem flw_size : (Tryz.prog.info? 58).map (·.size) = some 9 := by kernel_rfl
theorem one9 (f a0 a1 a2 a3 a4 a5 a6 a7 : Int) : (List.toArray [Value.int .i8 f, .int .i32 a0, .int .i32 a1, .int .i32 a2, .int .i32 a3, .int .i32 a4, .int .i32 a5, .int .i32 a6, .int .i32 a7]).all (·.oneCell') = true := by
  simp [Value.oneCell']
theorem infoFlW : (Tryz.prog.info? 58).map (fun i => (i.zero, i.size, i.bytes)) = some (some (.agg #[.int .i8 0, .int .i32 0, .int .i32 0, .int .i32 0, .int .i32 0, .int .i32 0, .int .i32 0, .int .i32 0, .int .i32 0]), 9, 36) := by kernel_rfl
theorem res9d (t : Array Value) (w : World) (b : Nat) {f a0 a1 a2 a3 a4 a5 a6 a7 : Int} (h2 : t[2]?.getD undef = .pointer (some ⟨b, 0, none⟩)) (S : Row w b 58 [.int .i8 f, .int .i32 a0, .int .i32 a1, .int .i32 a2, .int .i32 a3, .int .i32 a4, .int .i32 a5, .int .i32 a6, .int .i32 a7]) :
    (results Tryz.f36 t).run Tryz.prog w = .ok (.agg #[.int .i8 f, .int .i32 a0, .int .i32 a1, .int .i32 a2, .int .i32 a3, .int .i32 a4, .int .i32 a5, .int .i32 a6, .int .i32 a7]) w := by
  obtain ⟨s0, s1, s2, s3, s4, s5, s6, s7, s8⟩ := S.cells9
  simp [results, Tryz.results36, go_sem, h2, s0, s1, s2, s3, s4, s5, s6, s7, s8]
theorem flDrawn_any (W0 w : World) (g : Nat) (K : Int) (S : Src W0 w g K) (hK0 : 0 ≤ K) (hK : K ≤ 900) :
    Calls Tryz.prog 36 #[.pointer (some ⟨g, 0, none⟩)] w fun e w' => ∃ f a0 a1 a2 a3 a4 a5 a6 a7, e = .returned (.agg #[.int .i8 f, .int .i32 a0, .int .i32 a1, .int .i32 a2, .int .i32 a3, .int .i32 a4, .int .i32 a5, .int .i32 a6, .int .i32 a7]) ∧
      (0 ≤ f ∧ f ≤ 9) ∧ (∀ y ∈ [a0, a1, a2, a3, a4, a5, a6, a7], 0 ≤ y ∧ y ≤ 12) ∧ Src W0 w' g (K + 24) ∧ w.grownBy w' (some g) := by
  have hgw := S.lt
  have X2 := Lib.hid (Row.alloc w [.int .i8 0, .int .i32 0, .int .i32 0, .int .i32 0, .int .i32 0, .int .i32 0, .int .i32 0, .int .i32 0, .int .i32 0] 58)
  have S1 := S.grown0 (World.grownBy_alloc w (.cells #[.int .i8 0, .int .i32 0, .int .i32 0, .int .i32 0, .int .i32 0, .int .i32 0, .int .i32 0, .int .i32 0, .int .i32 0] 58) none)
  have G0 := Lib.hid (World.grownBy_alloc w (.cells #[.int .i8 0, .int .i32 0, .int .i32 0, .int .i32 0, .int .i32 0, .int .i32 0, .int .i32 0, .int .i32 0, .int .i32 0] 58) (some g))
  go_enter Tryz.func36, Tryz.ntmps36
  go_wp2_with fail
  refine (pick_any W0 _ g K 10 S1 (by omega) (by omega)).mono ?_
  rintro e w1 ⟨f, rfl, hf0, hf1, _, S2, N2⟩
  have hf9 := hf1 (by omega)
  replace X2 := Lib.hid (N2.row X2.out (by omega))
  replace G0 := Lib.hid (grown_trans G0.out N2.1)
  clear N2 S1 hf1
  have v8 : IntKind.i8.wrap f = f := IntWalk.i8_in _ (by omega)
  go_wp2_with fail
  refine (pile_any W0 _ g (K + 2) S2 (by omega) (by omega)).mono ?_
  rintro e w2 ⟨a0, a1, a2, a3, a4, a5, a6, a7, rfl, hb, S3, G⟩
  have X3 : Hid (Row w2 w.heap.size 58 [.int .i8 0, .int .i32 0, .int .i32 0, .int .i32 0, .int .i32 0, .int .i32 0, .int .i32 0, .int .i32 0, .int .i32 0]) := Lib.hid ((G.block _ X2.out.lt (by intro e; cases e; omega)).trans X2.out)
  have G1 := Lib.hid (grown_trans G0.out G)
  have HBD := Lib.hid hb
  have SH := Lib.hid S3
  clear X2 S2 S3 G hb G0
  go_wp2_with (refine wpList_store_mid (by rfl) _ _ _ (by rfl) w.heap.size 0 (List.toArray [.int .i8 f, .int .i32 a0, .int .i32 a1, .int .i32 a2, .int .i32 a3, .int .i32 a4, .int .i32 a5, .int .i32 a6, .int .i32 a7]) (by rfl) (by rfl) (X3.out.there rfl) flw_size (one9 _ _ _ _ _ _ _ _ _) ?_; have S8 := X3.out.setAll [.int .i8 f, .int .i32 a0, .int .i32 a1, .int .i32 a2, .int .i32 a3, .int .i32 a4, .int .i32 a5, .int .i32 a6, .int .i32 a7] rfl; have hBB := below_setCells (b := w.heap.size) (C := w.heap.size) (Nat.le_refl _) [.int .i8 f, .int .i32 a0, .int .i32 a1, .int .i32 a2, .int .i32 a3, .int .i32 a4, .int .i32 a5, .int .i32 a6, .int .i32 a7] 0 (Below.refl w.heap.size w2); simp only [List.toList_toArray]; generalize World.setCells _ w.heap.size 0 [.int .i8 f, .int .i32 a0, .int .i32 a1, .int .i32 a2, .int .i32 a3, .int .i32 a4, .int .i32 a5, .int .i32 a6, .int .i32 a7] = ww at S8 hBB ⊢)
  refine bodyPost_ret (res9d _ _ w.heap.size rfl S8) rfl ⟨f, a0, a1, a2, a3, a4, a5, a6, a7, rfl, ⟨hf0, by omega⟩, HBD.out, ?_, ?_⟩
  · have := SH.out.below hBB hgw
    rw [show K + 2 + 22 = K + 24 by omega] at this
    exact this
  · exact ⟨hBB.os.trans G1.out.os, hBB.tape.trans G1.out.tape, hBB.output.trans G1.out.output, Nat.le_trans G1.out.size hBB.size, fun j hj hne => (hBB.block j hj).trans (G1.out.block j hj hne)⟩
theorem grown_own1 (w : World) (b o : Nat) (v : Value) : w.grownBy (w.setCell ⟨b, o, none⟩ v) (Value.ownBlock (.slice (some ⟨b, 0, none⟩) 0 0)) :=
  ⟨rfl, rfl, rfl, by rw [World.size_setCell]; exact Nat.le_refl _, fun k _ hk => Below.heap_setCell _ _ _ k (fun e => hk (by rw [e]; rfl))⟩
/-- What a drawn fleece is like. -/
def FlD (x : Int × List Int) : Prop := (0 ≤ x.1 ∧ x.1 ≤ 9) ∧ x.2.length = 8 ∧ (∀ y ∈ x.2, 0 ≤ y ∧ y ≤ 13) ∧ 1 ≤ x.2.sum ∧ x.2.sum ≤ 97
theorem suml_le {L : List Int} {b : Int} (h : ∀ y ∈ L, 0 ≤ y ∧ y ≤ b) : 0 ≤ L.sum ∧ L.sum ≤ b * L.length := by
  induction L with
  | nil => simp
  | cons y L ih =>
    have h1 := ih (fun z hz => h z (List.mem_cons_of_mem _ hz))
    have h2 := h y (List.mem_cons_self ..)
    rw [List.sum_cons, List.length_cons]
    push_cast
    rw [Int.mul_add, Int.mul_one]
    omega
theorem sum_set {L : List Int} {q : Nat} {y z : Int} (h : L[q]? = some y) : (L.set q z).sum = L.sum - y + z := by
  induction L generalizing q with
  | nil => simp at h
  | cons a L ih =>
    cases q with
    | zero => simp at h; subst h; rw [List.set_cons_zero, List.sum_cons, List.sum_cons]; omega
    | succ q => rw [List.set_cons_succ, List.sum_cons, List.sum_cons, ih (by simpa using h)]; omega
/-- A drawn fleece with a gram more of one length. -/
theorem fl_more {f : Int} {L : List Int} {q : Nat} {y : Int} (hf : 0 ≤ f ∧ f ≤ 9) (hL : L.length = 8) (hb : ∀ t ∈ L, 0 ≤ t ∧ t ≤ 12) (h : L[q]? = some y) : FlD (f, L.set q (y + 1)) := by
  have h1 := suml_le hb
  have h2 := hb y (List.mem_of_getElem? h)
  rw [hL] at h1
  refine ⟨hf, by show (L.set q (y + 1)).length = 8; rw [List.length_set]; exact hL, ?_, ?_, ?_⟩
  · intro t ht
    rcases List.mem_or_eq_of_mem_set ht with h3 | h3
    · have := hb t h3; omega
    · omega
  · show 1 ≤ (L.set q (y + 1)).sum
    rw [sum_set h]; omega
  · show (L.set q (y + 1)).sum ≤ 97
    rw [sum_set h]; omega
set_option maxHeartbeats 2000000 in
theorem p6Fleeces_any (A : Option Addr) (n c : Nat) (xs0 : List Int) (w : World) (R : Rds w A n 1 (fun x : Int => [.int .u8 x]) xs0) (hx : ∀ x ∈ xs0, (Lit.int .u8 x).wf = true) :
    Calls Tryz.prog 6 #[.slice A n c] w fun e w' => ∃ (A' : Option Addr) (c' : Nat) (xs : List (Int × List Int)), e = .returned (.slice A' xs.length c') ∧ xs.length ≤ 4 ∧ (∀ x ∈ xs, FlD x) ∧
      w'.ownsRow w.heap.size 58 9 (.slice A' xs.length c') xs.length (xs.flatMap FlC) ∧ Below w.heap.size w w' := by
  go_enter Tryz.func6, Tryz.ntmps6
  go_wp2_with fail
  refine (src_from A n c xs0 _ R hx).mono ?_
  rintro e w1 ⟨g, rfl, S⟩
  have hg1 := S.old.2
  have hg2 := S.lt
  have HB1 := Lib.hid S.old.1
  have hb0 := below_alloc1 w1 (.cells #[] 58)
  have S1 := S.below hb0 hg2
  have O0 := Lib.hid (own_empty w1 58 9)
  obtain ⟨wb, hwb⟩ : ∃ x, x = w1.alloc (.cells #[] 58) := ⟨_, rfl⟩
  have hz := Lib.hid (show wb.heap.size = w1.heap.size + 1 by rw [hwb, World.size_alloc])
  have HB2 := Lib.hid (HB1.out.alloc S.old.1.size (.cells #[] 58))
  go_wp2_with fail
  rw [← hwb] at S1 O0 HB2 ⊢
  clear hwb hb0 S
  refine (pick_any _ _ g 0 5 S1 (by omega) (by omega)).mono ?_
  rintro e w2 ⟨m, rfl, hm0, hm1, _, S2, N2⟩
  have hm4 : m ≤ 4 := by have := hm1 (by omega); omega
  obtain ⟨M, rfl⟩ : ∃ M : Nat, m = (M : Int) := ⟨m.toNat, by omega⟩
  have O1 := Lib.hid (N2.own O0.out hg2)
  have B1 := Lib.hid (N2.below HB2.out hg1 HB2.out.size)
  have S3 := Lib.hid (S2.le (show (0 : Int) + 2 ≤ 100 - 24 * (M : Int) by omega))
  have hw2 : w1.heap.size ≤ w2.heap.size := by have := N2.2; have := hz.out; omega
  clear S1 S2 N2 O0 hm0 hm1 HB2
  go_wp2_with fail
  go_loopw [4, 5] (fun o v wr => ∃ (k n' c' : Nat) (A' : Option Addr) (xs : List (Int × List Int)), n' + k ≤ 4 ∧ v = .int .i64 k ∧ o = .slice A' n' c' ∧ xs.length = n' ∧ w1.heap.size ≤ wr.heap.size ∧ Hid (∀ x ∈ xs, FlD x) ∧ Hid (wr.ownsRow w1.heap.size 58 9 (.slice A' n' c') n' (xs.flatMap FlC)) ∧ Hid (Src w wr g (100 - 24 * (k : Int))) ∧ Hid (Below w.heap.size w wr)) (fun _ v _ => (intOf v).toNat)
  case atStart => exact ⟨M, 0, _, _, [], by omega, rfl, rfl, rfl, hw2, Lib.hid (by simp), O1, S3, B1⟩
  case round =>
    clear O1 S3 B1 hm4 hw2
    obtain ⟨k, n', c', A', xs, hnk, rfl, rfl, hxl, hws, HX, O, S, HB⟩ := hrel
    by_cases hlt : 0 < k
    · have hki : (0 : Int) < (k : Int) := by omega
      go_wp2_with fail
      refine (flDrawn_any w _ g _ S.out (by omega) (by omega)).mono ?_
      rintro e w3 ⟨f, a0, a1, a2, a3, a4, a5, a6, a7, rfl, hf, hb, S4, G4⟩
      have O4 := Lib.hid (own_apart (v' := .slice (some ⟨g, 0, none⟩) 0 0) O.out G4 (fun k1 k2 h1 h2 => by have h4 := (own_base O.out k1 h1).1; have h3 : g = k2 := (by simpa [Value.ownBlock] using h2); omega))
      have B4 := Lib.hid (HB.out.grown G4 HB.out.size (fun k e => by cases e; exact hg1))
      have S4H := Lib.hid S4
      have HZ4 := Lib.hid G4.size
      have HU : Hid (∀ kk, Value.ownBlock (.slice A' n' c') = some kk → kk < w3.heap.size) := Lib.hid (fun kk h => Nat.lt_of_lt_of_le (own_base O.out kk h).2 G4.size)
      clear S G4 S4 O HB
      have X6 := Row.alloc w3 [.int .i8 f, .int .i32 a0, .int .i32 a1, .int .i32 a2, .int .i32 a3, .int .i32 a4, .int .i32 a5, .int .i32 a6, .int .i32 a7] 58
      have O5 := Lib.hid (O4.out.alloc (.cells #[.int .i8 f, .int .i32 a0, .int .i32 a1, .int .i32 a2, .int .i32 a3, .int .i32 a4, .int .i32 a5, .int .i32 a6, .int .i32 a7] 58))
      have B5 := Lib.hid (B4.out.alloc B4.out.size (.cells #[.int .i8 f, .int .i32 a0, .int .i32 a1, .int .i32 a2, .int .i32 a3, .int .i32 a4, .int .i32 a5, .int .i32 a6, .int .i32 a7] 58))
      have S5 := Lib.hid (S4H.out.grown0 (World.grownBy_alloc w3 (.cells #[.int .i8 f, .int .i32 a0, .int .i32 a1, .int .i32 a2, .int .i32 a3, .int .i32 a4, .int .i32 a5, .int .i32 a6, .int .i32 a7] 58) none))
      go_upto_region 7 with fail
      obtain ⟨w5, hw5⟩ : ∃ x, x = w3.alloc (.cells #[.int .i8 f, .int .i32 a0, .int .i32 a1, .int .i32 a2, .int .i32 a3, .int .i32 a4, .int .i32 a5, .int .i32 a6, .int .i32 a7] 58) := ⟨_, rfl⟩
      rw [← hw5] at X6 O5 B5 S5 ⊢
      clear hw5 O4 B4 S4H
      obtain ⟨L, hL⟩ : ∃ L, L = [a0, a1, a2, a3, a4, a5, a6, a7] := ⟨_, rfl⟩
      rw [← hL] at hb
      have hL8 : L.length = 8 := by rw [hL]; rfl
      have X6L : Row w5 w3.heap.size 58 (.int .i8 f :: nums .i32 L) := by rw [hL]; exact X6
      obtain ⟨y, hy⟩ : ∃ y, L[k]? = some y := ⟨_, List.getElem?_eq_getElem (by omega)⟩
      have hyb := hb y (List.mem_of_getElem? hy)
      have hc : w5.cell? ⟨w3.heap.size, 1 + k, none⟩ = some (.int .i32 y) := by
        rw [X6L.cell, Nat.add_comm, List.getElem?_cons_succ, nums_get, hy]
        rfl
      have hfz := X6L.frozen (1 + k)
      have hk8 : k < 8 := by omega
      have hk8i : (k : Int) < 8 := by omega
      have v1 : IntKind.i32.wrap (y + 1) = y + 1 := IntWalk.i32_in _ (by omega)
      have hX7 : Hid (Row (w5.setCell ⟨w3.heap.size, 1 + k, none⟩ (.int .i32 (y + 1))) w3.heap.size 58 (.int .i8 f :: nums .i32 (L.set k (y + 1)))) := Lib.hid (by
        have := X6L.set (1 + k) (.int .i32 (y + 1))
        rw [Nat.add_comm 1 k, List.set_cons_succ, set_i32] at this
        rw [Nat.add_comm 1 k]
        exact this)
      have hlt3 := X6L.lt
      have hb3 : w1.heap.size ≤ w3.heap.size := Nat.le_trans hws HZ4.out
      have hFD := Lib.hid (fl_more hf hL8 hb hy)
      have G6 := grown_own1 w5 w3.heap.size (1 + k) (.int .i32 (y + 1))
      have O6 := Lib.hid (own_apart (v' := .slice (some ⟨w3.heap.size, 0, none⟩) 0 0) O5.out G6 (fun k1 k2 h1 h2 => by have h4 := HU.out k1 h1; have h3 : w3.heap.size = k2 := (by simpa [Value.ownBlock] using h2); omega))
      have B6 := Lib.hid (B5.out.grown G6 B5.out.size (fun k e => by have h3 : w3.heap.size = k := (by simpa [Value.ownBlock] using e); have := HB1.out.size; omega))
      have S6 : Hid (Src w (w5.setCell ⟨w3.heap.size, 1 + k, none⟩ (.int .i32 (y + 1))) g (100 - 24 * (k : Int) + 24)) := Lib.hid (S5.out.below (b := w3.heap.size) ((Below.refl _ w5).setCell (p := ⟨w3.heap.size, 1 + k, none⟩) (Nat.le_refl _) _) (by omega))
      clear X6L hL hb X6 O5 B5 S5
      go_upto_region 8 with fail
      obtain ⟨w6, hw6⟩ : ∃ x, x = w5.setCell ⟨w3.heap.size, 1 + k, none⟩ (.int .i32 (y + 1)) := ⟨_, rfl⟩
      have hz6 : w5.heap.size = w6.heap.size := by rw [hw6, World.size_setCell]
      rw [← hw6] at hX7 O6 B6 S6 ⊢
      clear hw6 G6 hc hfz v1 hy
      obtain ⟨L2, hL2⟩ : ∃ L2, L2 = L.set k (y + 1) := ⟨_, rfl⟩
      have hL28 : L2.length = 8 := by rw [hL2, List.length_set]; exact hL8
      rw [← hL2] at hX7 hFD
      clear hL2
      obtain ⟨b0, b1, b2, b3, b4, b5, b6, b7, rfl⟩ := eight_of hL28
      have X8 : Row w6 w3.heap.size 58 [.int .i8 f, .int .i32 b0, .int .i32 b1, .int .i32 b2, .int .i32 b3, .int .i32 b4, .int .i32 b5, .int .i32 b6, .int .i32 b7] := hX7.out
      obtain ⟨e0, e1, e2, e3, e4, e5, e6, e7, e8⟩ := X8.cells9
      have hlt6 := X8.lt
      have hws6 : w1.heap.size ≤ w6.heap.size := by omega
      clear X8 hX7
      go_wp2_with ((at_builtin; refine app_any (w0 := w6) (W := w6) w1.heap.size (by rfl) _ _ 27 58 (.agg #[.int .i8 0, .int .i32 0, .int .i32 0, .int .i32 0, .int .i32 0, .int .i32 0, .int .i32 0, .int .i32 0, .int .i32 0]) 9 36 (by rfl) Tryz.underlying27 infoFlW rfl (by omega) (by omega) _ (by rfl) 1 1 [.int .i8 f, .int .i32 b0, .int .i32 b1, .int .i32 b2, .int .i32 b3, .int .i32 b4, .int .i32 b5, .int .i32 b6, .int .i32 b7] (by rfl) (by rfl) (by simp [Value.oneCell']) O6.out (Below.refl _ _) hws6 (by omega) ?_; intro A2 c2 w7 O7 HB7 hg7))
      have B7 := Lib.hid (B6.out.trans (HB7.mono HB1.out.size))
      have S7 := Lib.hid (S6.out.below HB7 hg2)
      have hz7 : w6.heap.size ≤ w7.heap.size := HB7.size
      have vk : IntKind.i64.wrap ((k : Int) - 1) = ((k - 1 : Nat) : Int) := (IntWalk.i64_in _ (by omega)).trans (by omega)
      have O8 : Hid (w7.ownsRow w1.heap.size 58 9 (.slice A2 (n' + 1) c2) (n' + 1) ((xs ++ [(f, [b0, b1, b2, b3, b4, b5, b6, b7])]).flatMap FlC)) := Lib.hid (by
        rw [List.flatMap_append]
        exact O7)
      have S8 := Lib.hid (S7.out.le (show 100 - 24 * (k : Int) + 24 ≤ 100 - 24 * ((k - 1 : Nat) : Int) by omega))
      clear O7 HB7 hg7 S7 e0 e1 e2 e3 e4 e5 e6 e7 e8
      go_wp2_with fail
      go_roundw
      case rel => exact ⟨k - 1, n' + 1, c2, A2, xs ++ [(f, [b0, b1, b2, b3, b4, b5, b6, b7])], by omega, by go_num, rfl, by rw [List.length_append, hxl]; rfl, by omega, Lib.hid (fun x hx => by
        rcases List.mem_append.1 hx with h | h
        · exact HX.out x h
        · rw [List.mem_singleton.1 h]; exact hFD.out), O8, S8, B7⟩
      case measure => simp [intOf]; omega
    · obtain rfl : k = 0 := by omega
      have hni : ¬ (0 : Int) < ((0 : Nat) : Int) := by omega
      subst hxl
      go_wp2_with fail
      go_ret
      exact ⟨A', c', xs, rfl, by omega, by first | exact HX.out | exact fun a b h => HX.out (a, b) h, own_lower O.out HB1.out.size, HB.out⟩
end Go.Proofs.YtbkhlcbnnjgdpaaGreatDoor
