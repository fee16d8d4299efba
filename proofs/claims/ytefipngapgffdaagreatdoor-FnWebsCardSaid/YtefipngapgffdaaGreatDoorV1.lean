/- Contracts: the source of drawn numbers (next, pick, one, among): what it gives lies between two bounds. -/
import Derived.Test.YtefipngapgffdaaGreatDoorProg
import Derived.Test.YtefipngapgffdaaGreatDoorK
import Derived.IntWalk
namespace Go.Proofs.YtefipngapgffdaaGreatDoor
open Go.RowKit
set_option linter.unusedVariables false
set_option linter.unusedSimpArgs false
/-- A source of drawn numbers at block g, made behind the world W0; K bounds how often it has been asked. -/
def Src (W0 w : World) (g : Nat) (K : Int) : Prop :=
  ∃ (A : Option Addr) (n c : Nat) (xs : List Int) (a s : Int), Rds W0 A n 1 (fun x : Int => [.int .u8 x]) xs ∧ (∀ x ∈ xs, 0 ≤ x ∧ x ≤ 255) ∧ W0.heap.size ≤ g ∧ Below W0.heap.size W0 w ∧
    Row w g 70 [.slice A n c, .int .i64 a, .int .u64 s] ∧ 0 ≤ a ∧ a ≤ K
/-- Nothing but block g is other than it was. -/
def Only (g : Nat) (w w' : World) : Prop := w.grownBy w' (some g) ∧ w'.heap.size = w.heap.size
theorem Only.refl (g : Nat) (w : World) : Only g w w := ⟨⟨rfl, rfl, rfl, Nat.le_refl _, fun _ _ _ => rfl⟩, rfl⟩
theorem Only.trans {g : Nat} {w w1 w2 : World} (h : Only g w w1) (k : Only g w1 w2) : Only g w w2 := ⟨grown_trans h.1 k.1, k.2.trans h.2⟩
theorem Only.set {g : Nat} {w w' : World} (h : Only g w w') (i : Nat) (v : Value) : Only g w (w'.setCell ⟨g, i, none⟩ v) :=
  ⟨⟨h.1.os, h.1.tape, h.1.output, by simpa [World.setCell] using h.1.size, fun k hk hne => by
    rw [heap_setCell_other _ _ _ _ (by intro e; exact hne (by rw [e]))]; exact h.1.block k hk hne⟩, by simpa [World.setCell] using h.2⟩
theorem Only.drew {g : Nat} {w w' : World} (h : Only g w w') : Only g w w'.drew := ⟨⟨h.1.os, h.1.tape, h.1.output, h.1.size, h.1.block⟩, h.2⟩
theorem Only.below {g B : Nat} {a w w' : World} (h : Only g w w') (hb : Below B a w) (hB : B ≤ g) (hs : B ≤ w.heap.size) : Below B a w' :=
  hb.grown h.1 hs (fun k hk => by cases hk; exact hB)
theorem Only.own {g b : Nat} {w w' : World} {e : TypeId} {s n : Nat} {v : Value} {xs : List Value} (h : Only g w w') (O : w.ownsRow b e s v n xs) (hb : g < b) : w'.ownsRow b e s v n xs :=
  own_apart (v' := .slice (some ⟨g, 0, none⟩) 0 0) O h.1 (fun k k' h1 h2 => by have h4 := (own_base O k h1).1; have h3 : g = k' := (by simpa [Value.ownBlock] using h2); omega)
theorem Only.row {g b : Nat} {w w' : World} {E : TypeId} {L : List Value} (h : Only g w w') (r : Row w b E L) (hne : b ≠ g) : Row w' b E L :=
  (h.1.block b r.lt (by intro e; exact hne (by cases e; rfl))).trans r
theorem u8_rng {x : Int} (h : (Lit.int .u8 x).wf = true) : 0 ≤ x ∧ x ≤ 255 := by simp [Lit.wf, IntKind.min, IntKind.max, IntKind.signed, IntKind.bits] at h; omega
theorem Src.drew {W0 w : World} {g : Nat} {K : Int} (h : Src W0 w g K) : Src W0 w.drew g K := by
  obtain ⟨A, n, c, xs, a, s, R, hx, hg, hB, hr, ha, haK⟩ := h
  exact ⟨A, n, c, xs, a, s, R, hx, hg, hB.drew, hr.drew, ha, haK⟩
theorem src_step {W0 w : World} {g n c : Nat} {K a s : Int} {A : Option Addr} {xs : List Int} (R : Rds W0 A n 1 (fun x : Int => [.int .u8 x]) xs) (hx : ∀ x ∈ xs, 0 ≤ x ∧ x ≤ 255) (hg : W0.heap.size ≤ g) (hB : Below W0.heap.size W0 w)
    (hr : Row w g 70 [.slice A n c, .int .i64 a, .int .u64 s]) (ha : 0 ≤ a) (haK : a ≤ K) (s' : Int) :
    Src W0 ((w.setCell ⟨g, 1, none⟩ (.int .i64 (a + 1))).setCell ⟨g, 2, none⟩ (.int .u64 s')) g (K + 1) ∧ Only g w ((w.setCell ⟨g, 1, none⟩ (.int .i64 (a + 1))).setCell ⟨g, 2, none⟩ (.int .u64 s')) :=
  ⟨⟨A, n, c, xs, a + 1, s', R, hx, hg, (hB.setCell hg _).setCell hg _, (hr.set 1 (.int .i64 (a + 1))).set 2 (.int .u64 s'), by omega, by omega⟩, ((Only.refl g w).set 1 _).set 2 _⟩
theorem seed_byte (z : Int) : 0 ≤ wrap64 (bits BinOp.and IntKind.u64 (IntKind.u64.wrap z / 1099511627776) 255) ∧ wrap64 (bits BinOp.and IntKind.u64 (IntKind.u64.wrap z / 1099511627776) 255) ≤ 255 := by
  have h0 : 0 ≤ IntKind.u64.wrap z ∧ IntKind.u64.wrap z < 18446744073709551616 := by
    unfold IntKind.wrap
    simp [IntKind.bits, IntKind.signed]
    omega
  generalize IntKind.u64.wrap z = y at h0
  have h := bits_mask .u64 63 (by decide) (fun n h₀ h₁ => by rw [IntKind.wrap_u64]; omega) 8 (by decide) (y / 1099511627776) (by omega) (by omega)
  have e : ((2 : Int) ^ 8 - 1) = 255 := by decide
  have e2 : ((2 : Int) ^ 8) = 256 := by decide
  rw [e, e2] at h
  rw [h]
  have h1 : 0 ≤ y / 1099511627776 % 256 ∧ y / 1099511627776 % 256 < 256 := by omega
  generalize y / 1099511627776 % 256 = x at h1
  have h2 : wrap64 x = x := by unfold wrap64; omega
  rw [h2]
  omega
theorem next_any (W0 w : World) (g : Nat) (K : Int) (h : Src W0 w g K) (hK : K ≤ 1000000000) :
    Calls Tryz.prog 66 #[.pointer (some ⟨g, 0, none⟩)] w fun e w' => ∃ b : Int, e = .returned (.int .i64 b) ∧ 0 ≤ b ∧ b ≤ 255 ∧ Src W0 w' g (K + 1) ∧ Only g w w' := by
  obtain ⟨A, n, c, xs, a, s, R, hx, hg, hB, hr, ha, haK⟩ := h
  have HX := Lib.hid hx; have HB := Lib.hid hB; clear hx hB
  obtain ⟨c0, c1, c2⟩ := hr.cells3
  obtain ⟨f0, f1, f2⟩ := hr.frozens3
  have hn := R.2.1
  have v1 : IntKind.i64.wrap (a + 1) = a + 1 := IntWalk.i64_in _ (by omega)
  by_cases hlt : a < n
  · obtain ⟨k, rfl⟩ : ∃ k : Nat, a = (k : Int) := ⟨a.toNat, by omega⟩
    obtain ⟨ad, x, rfl, hx, e0⟩ := (R.below HB.out).at1 (show k < n by omega)
    have hxb := HX.out x (List.mem_of_getElem? hx)
    clear hx
    go_enter Tryz.func66, Tryz.ntmps66
    go_wp2_with fail
    go_region
    all_goals go_wp2_with fail
    go_region
    all_goals go_wp2_with fail
    go_region
    all_goals go_wp2_with fail
    all_goals go_ret
    all_goals exact ⟨x, rfl, hxb.1, hxb.2, (src_step R HX.out hg HB.out hr ha haK _).1.drew.drew.drew, (src_step R HX.out hg HB.out hr ha haK _).2.drew.drew.drew⟩
  · go_enter Tryz.func66, Tryz.ntmps66
    go_wp2_with fail
    go_region
    all_goals go_wp2_with fail
    go_region
    all_goals go_wp2_with fail
    all_goals go_ret
    all_goals exact ⟨_, rfl, (seed_byte _).1, (seed_byte _).2, (src_step R HX.out hg HB.out hr ha haK _).1.drew.drew, (src_step R HX.out hg HB.out hr ha haK _).2.drew.drew⟩
theorem pick_any (W0 w : World) (g : Nat) (K n : Int) (h : Src W0 w g K) (hK : K ≤ 1000000) (hn : n ≤ 60000) :
    Calls Tryz.prog 31 #[.pointer (some ⟨g, 0, none⟩), .int .i64 n] w fun e w' => ∃ b : Int, e = .returned (.int .i64 b) ∧ 0 ≤ b ∧ (1 < n → b < n) ∧ (n ≤ 1 → b = 0) ∧ Src W0 w' g (K + 2) ∧ Only g w w' := by
  by_cases h1 : n ≤ 1
  · go_enter Tryz.func31, Tryz.ntmps31
    go_wp2_with fail
    go_ret
    obtain ⟨A, m, c, xs, a, s, R, hx, hg, hB, hr, ha, haK⟩ := h
    exact ⟨0, rfl, by omega, by omega, fun _ => rfl, ⟨A, m, c, xs, a, s, R, hx, hg, hB, hr, ha, by omega⟩, Only.refl _ _⟩
  · have hn0 : ¬ n = 0 := by omega
    by_cases h2 : 200 < n
    · go_enter Tryz.func31, Tryz.ntmps31
      go_wp2_with fail
      refine (next_any W0 _ g K h (by omega)).mono ?_
      rintro e w1 ⟨b1, rfl, hb1, hb1', S1, O1⟩
      go_wp2_with fail
      refine (next_any W0 _ g (K + 1) S1 (by omega)).mono ?_
      rintro e w2 ⟨b2, rfl, hb2, hb2', S2, O2⟩
      have v1 : IntKind.i64.wrap (b1 * 256) = b1 * 256 := IntWalk.i64_in _ (by omega)
      have v2 : IntKind.i64.wrap (b1 * 256 + b2) = b1 * 256 + b2 := IntWalk.i64_in _ (by omega)
      have v3 := Int.emod_nonneg (b1 * 256 + b2) hn0
      have v4 := Int.emod_lt_of_pos (b1 * 256 + b2) (show 0 < n by omega)
      go_wp2_with fail
      go_ret
      exact ⟨(b1 * 256 + b2) % n, by rfl, v3, fun _ => v4, by omega, by rw [show K + 2 = K + 1 + 1 by omega]; exact S2, O1.trans O2⟩
    · go_enter Tryz.func31, Tryz.ntmps31
      go_wp2_with fail
      refine (next_any W0 _ g K h (by omega)).mono ?_
      rintro e w1 ⟨b1, rfl, hb1, hb1', S1, O1⟩
      have v3 := Int.emod_nonneg b1 hn0
      have v4 := Int.emod_lt_of_pos b1 (show 0 < n by omega)
      go_wp2_with fail
      go_ret
      obtain ⟨A, m, c, xs, a, s, R, hx, hg, hB, hr, ha, haK⟩ := S1
      exact ⟨b1 % n, by rfl, v3, fun _ => v4, by omega, ⟨A, m, c, xs, a, s, R, hx, hg, hB, hr, ha, by omega⟩, O1⟩
theorem one_any (W0 w : World) (g : Nat) (K n : Int) (h : Src W0 w g K) (hK : K ≤ 1000000) (hn : n ≤ 60000) :
    Calls Tryz.prog 65 #[.pointer (some ⟨g, 0, none⟩), .int .i64 n] w fun e w' => ∃ b : Bool, e = .returned (.bool b) ∧ Src W0 w' g (K + 2) ∧ Only g w w' := by
  go_enter Tryz.func65, Tryz.ntmps65
  go_wp2_with fail
  refine (pick_any W0 _ g K n h hK hn).mono ?_
  rintro e w1 ⟨b, rfl, _, _, _, S1, O1⟩
  go_wp2_with fail
  go_ret
  exact ⟨_, rfl, S1, O1⟩
theorem among_any (W0 w : World) (g : Nat) (K : Int) (A : Option Addr) (n c : Nat) (xs : List Int) (R : ∀ w', Only g w w' → Rds w' A n 1 (fun x : Int => [.int .i64 x]) xs) (hn0 : 0 < n) (hn : n ≤ 60000) (h : Src W0 w g K) (hK : K ≤ 1000000) :
    Calls Tryz.prog 64 #[.pointer (some ⟨g, 0, none⟩), .slice A n c] w fun e w' => ∃ x : Int, e = .returned (.int .i64 x) ∧ x ∈ xs ∧ Src W0 w' g (K + 2) ∧ Only g w w' := by
  go_enter Tryz.func64, Tryz.ntmps64
  go_wp2_with fail
  refine (pick_any W0 _ g K n h hK (by omega)).mono ?_
  rintro e w1 ⟨b, rfl, hb0, hb1, hb2, S1, O1⟩
  obtain ⟨k, rfl⟩ : ∃ k : Nat, b = (k : Int) := ⟨b.toNat, by omega⟩
  have hk : k < n := by
    by_cases h1 : n ≤ 1
    · have := hb2 (by omega); omega
    · have := hb1 (by omega); omega
  obtain ⟨ad, x, rfl, hx, e0⟩ := (R w1 O1).at1 hk
  clear hb1 hb2
  go_wp2_with fail
  go_ret
  exact ⟨x, rfl, List.mem_of_getElem? hx, S1, O1⟩
end Go.Proofs.YtefipngapgffdaaGreatDoor
