/- Contracts: a web that is drawn (A2Web), the small functions of the laws (a2Long, a2At, A2Same, A2Has). -/
import Derived.Test.YtefipngapgffdaaGreatDoorV1
import Derived.Test.YtefipngapgffdaaGreatDoorC3
namespace Go.Proofs.YtefipngapgffdaaGreatDoor
open Go.RowKit
set_option linter.unusedVariables false
set_option linter.unusedSimpArgs false
theorem Src.below {W0 w w' : World} {g b : Nat} {K : Int} (h : Src W0 w g K) (hb : Below b w w') (hg : g < b) : Src W0 w' g K := by
  obtain ⟨A, n, c, xs, a, s, R, hx, hg0, hB, hr, ha, haK⟩ := h
  exact ⟨A, n, c, xs, a, s, R, hx, hg0, hB.trans (hb.mono (by omega)), (hb.block g hg).trans hr, ha, haK⟩
theorem Src.le {W0 w : World} {g : Nat} {K K' : Int} (h : Src W0 w g K) (hK : K ≤ K') : Src W0 w g K' := by
  obtain ⟨A, n, c, xs, a, s, R, hx, hg0, hB, hr, ha, haK⟩ := h
  exact ⟨A, n, c, xs, a, s, R, hx, hg0, hB, hr, ha, by omega⟩
theorem Src.lt {W0 w : World} {g : Nat} {K : Int} (h : Src W0 w g K) : g < w.heap.size := by
  obtain ⟨A, n, c, xs, a, s, R, hx, hg0, hB, hr, ha, haK⟩ := h
  exact hr.lt
theorem Src.old {W0 w : World} {g : Nat} {K : Int} (h : Src W0 w g K) : Below W0.heap.size W0 w ∧ W0.heap.size ≤ g := by
  obtain ⟨A, n, c, xs, a, s, R, hx, hg0, hB, hr, ha, haK⟩ := h
  exact ⟨hB, hg0⟩
theorem from_any (A : Option Addr) (n c : Nat) (xs : List Int) (w : World) (R : Rds w A n 1 (fun x : Int => [.int .u8 x]) xs) (hx : ∀ x ∈ xs, (Lit.int .u8 x).wf = true) :
    Calls Tryz.prog 30 #[.slice A n c] w fun e w' => ∃ g : Nat, e = .returned (.pointer (some ⟨g, 0, none⟩)) ∧ Src w w' g 0 := by
  go_enter Tryz.func30, Tryz.ntmps30
  go_wp2_with fail
  go_ret
  exact ⟨w.heap.size, rfl, A, n, c, xs, 0, 0, R, fun x h => u8_rng (hx x h), Nat.le_refl _, below_alloc1 w _, Row.alloc w [.slice A n c, .int .i64 0, .int .u64 0] 70, by omega, by omega⟩
theorem all_snoc {ys : List Int} {z lo hi : Int} (h : ∀ y ∈ ys, lo ≤ y ∧ y ≤ hi) (hz : lo ≤ z ∧ z ≤ hi) : ∀ y ∈ ys ++ [z], lo ≤ y ∧ y ≤ hi := by
  intro y hy
  rcases List.mem_append.1 hy with hy | hy
  · exact h y hy
  · rw [List.mem_singleton.1 hy]; exact hz
/-- What a drawn web is like. -/
def drawnWeb (ys : List Int) : Prop := (ys.length = 2 ∨ ys.length = 4 ∨ ys.length = 6 ∨ ys.length = 8) ∧ ∀ y ∈ ys, 0 ≤ y ∧ y ≤ 999
set_option maxHeartbeats 2000000 in
theorem l02Drawn_any (W0 w : World) (g : Nat) (S : Src W0 w g 0) :
    Calls Tryz.prog 29 #[.pointer (some ⟨g, 0, none⟩)] w fun e w' => ∃ (A' : Option Addr) (c' : Nat) (ys : List Int), drawnWeb ys ∧ e = .returned (.slice A' ys.length c') ∧ w'.ownsRow w.heap.size 2 1 (.slice A' ys.length c') ys.length (nums .i64 ys) ∧ Below W0.heap.size W0 w' := by
  have hgw := S.lt
  go_enter Tryz.func29, Tryz.ntmps29
  go_wp2_with fail
  have HB1 := below_alloc1 w (.cells #[] 2)
  have O0 := own_empty w 2 1
  have HB2 := below_alloc1 (w.alloc (.cells #[] 2)) (.cells #[.int .i64 3, .int .i64 12, .int .i64 40, .int .i64 1000] 2)
  have R2 := Row.alloc (w.alloc (.cells #[] 2)) [.int .i64 3, .int .i64 12, .int .i64 40, .int .i64 1000] 2
  rw [World.size_alloc] at R2
  replace O0 := own_below O0 HB2
  have S1 := (S.below HB1 hgw).below HB2 (by rw [World.size_alloc]; omega)
  have hs2 : ((w.alloc (.cells #[] 2)).alloc (.cells #[.int .i64 3, .int .i64 12, .int .i64 40, .int .i64 1000] 2)).heap.size = w.heap.size + 2 := by rw [World.size_alloc, World.size_alloc]
  refine (among_any W0 _ g 0 (some ⟨w.heap.size + 1, 0, none⟩) 4 4 [3, 12, 40, 1000] (fun w' h => own_rds1 (((h.row R2 (by omega)).own (n := 4) (base := 0) (sz := 1) (Nat.zero_le _) (by unfold maxLen; omega) rfl : w'.ownsRow 0 2 1 (.slice (some ⟨w.heap.size + 1, 0, none⟩) 4 4) 4 (nums .i64 [3, 12, 40, 1000]))) (by omega)) (by omega) (by omega) S1 (by omega)).mono ?_
  rintro e w1 ⟨mo, rfl, hmo, S2, N2⟩
  replace O0 := N2.own O0 hgw
  have hw1 := N2.2
  rw [hs2] at hw1
  replace hw1 := Nat.le_of_eq hw1.symm
  clear R2 HB1 HB2 S1 N2 hs2
  have hmb : 3 ≤ mo ∧ mo ≤ 1000 := by simp at hmo; omega
  clear hmo
  go_wp2_with fail
  refine (pick_any W0 _ g _ 4 S2 (by omega) (by omega)).mono ?_
  rintro e w2 ⟨p, rfl, hp0, hp1, hp2, S3, N3⟩
  replace O0 := N3.own O0 hgw
  have hw2 := Nat.le_of_eq N3.2.symm
  have hp4 := hp1 (by omega)
  clear hp1 hp2 N3 S2
  have v1 : IntKind.i64.wrap (1 + p) = 1 + p := IntWalk.i64_in _ (by omega)
  have v2 : IntKind.i64.wrap (2 * (1 + p)) = 2 * (1 + p) := IntWalk.i64_in _ (by omega)
  obtain ⟨N, hN⟩ : ∃ N : Nat, 2 * (1 + p) = (N : Int) := ⟨(2 * (1 + p)).toNat, by omega⟩
  rw [hN] at v2
  have hN8 : N = 2 ∨ N = 4 ∨ N = 6 ∨ N = 8 := by omega
  have HN := Lib.hid hN8; clear hN8
  have hN9 : N ≤ 8 := by have := HN.out; omega
  go_wp2_with fail
  clear v1 v2
  have hbw : w.heap.size ≤ w2.heap.size := by omega
  go_loopw [3, 5] (fun s v wr => ∃ (j : Nat) (A' : Option Addr) (c' : Nat) (ys : List Int), j ≤ N ∧ v = .int .i64 ((N : Int) - (j : Int)) ∧ s = .slice A' j c' ∧ Hid (wr.ownsRow w.heap.size 2 1 (.slice A' j c') j (nums .i64 ys) ∧ ys.length = j ∧ (∀ y ∈ ys, 0 ≤ y ∧ y ≤ 999) ∧ Src W0 wr g (4 + 6 * (j : Int))) ∧ w.heap.size ≤ wr.heap.size) (fun _ v _ => (intOf v).toNat)
  case atStart => exact ⟨0, _, _, [], by omega, by simp, rfl, Lib.hid ⟨O0, rfl, by simp, S3.le (by omega)⟩, hbw⟩
  case round =>
    obtain ⟨j, A', c', ys, hj, rfl, rfl, H, hws⟩ := hrel
    clear O0 S3
    by_cases hlt : j < N
    · obtain ⟨O, hyl, hyb, S⟩ := H.out
      have hi1 : 0 < (N : Int) - (j : Int) := by omega
      have HYB := Lib.hid hyb; have HYL := Lib.hid hyl; clear hyb hyl
      go_wp2_with fail
      refine (pick_any W0 _ g _ mo S (by omega) (by omega)).mono ?_
      rintro e w3 ⟨y, rfl, hy0, hy1, hy2, S4, N4⟩
      replace O := N4.own O hgw
      have hw3 := Nat.le_of_eq N4.2.symm
      have hy9 := hy1 (by omega)
      clear hy1 hy2 N4 S
      go_wp2_with fail
      refine (one_any W0 _ g _ 4 S4 (by omega) (by omega)).mono ?_
      rintro e w4 ⟨b, rfl, S5, N5⟩
      replace O := N5.own O hgw
      have hw4 := Nat.le_of_eq N5.2.symm
      clear N5 S4
      have hv : IntKind.i64.wrap ((N : Int) - (j : Int) - 1) = (N : Int) - (j : Int) - 1 := IntWalk.i64_in _ (by omega)
      cases b
      · go_wp2_with ((at_builtin; (refine app_any (w0 := w4) w.heap.size (by rfl) _ _ 24 2 (.int .i64 0) 1 8 (by rfl) Tryz.underlying24 info_i64 rfl (by omega) (by omega) _ (by rfl) 1 1 [.int .i64 y] (by rfl) (by rfl) (by simp [Value.oneCell']) O (Below.refl _ _) (by omega) (by omega) ?_); intro A2 c2 w6 O2 HBn hg2))
        clear hv
        rw [← nums_snoc] at O2
        have hw6 := HBn.size
        go_wp2_with fail
        go_roundw
        case rel => exact ⟨j + 1, A2, c2, ys ++ [y], by omega, by show Value.int .i64 _ = Value.int .i64 _; congr 1; omega, rfl, Lib.hid ⟨O2, by simp [HYL.out], all_snoc HYB.out (by omega), (S5.below HBn hgw).le (by omega)⟩, by omega⟩
        case measure => simp [intOf]; omega
      · go_wp2_with fail
        refine (pick_any W0 _ g _ 3 S5 (by omega) (by omega)).mono ?_
        rintro e w5 ⟨z, rfl, hz0, hz1, hz2, S6, N6⟩
        replace O := N6.own O hgw
        have hw5 := Nat.le_of_eq N6.2.symm
        have hz9 := hz1 (by omega)
        clear hz1 hz2 N6 S5
        go_wp2_with ((at_builtin; refine app_any (w0 := w5) w.heap.size (by rfl) _ _ 24 2 (.int .i64 0) 1 8 (by rfl) Tryz.underlying24 info_i64 rfl (by omega) (by omega) _ (by rfl) 1 1 [.int .i64 z] (by rfl) (by rfl) (by simp [Value.oneCell']) O (Below.refl _ _) (by omega) (by omega) ?_; intro A2 c2 w6 O2 HBn hg2))
        clear hv
        rw [← nums_snoc] at O2
        have hw6 := HBn.size
        go_wp2_with fail
        go_roundw
        case rel => exact ⟨j + 1, A2, c2, ys ++ [z], by omega, by show Value.int .i64 _ = Value.int .i64 _; congr 1; omega, rfl, Lib.hid ⟨O2, by simp [HYL.out], all_snoc HYB.out (by omega), (S6.below HBn hgw).le (by omega)⟩, by omega⟩
        case measure => simp [intOf]; omega
    · obtain rfl : j = N := by omega
      obtain ⟨O, hyl, hyb, S⟩ := H.out
      have hi1 : ¬ 0 < (j : Int) - (j : Int) := by omega
      have HYL := Lib.hid hyl; clear hyl
      go_wp2_with fail
      go_ret
      obtain rfl := HYL.out
      exact ⟨A', c', ys, ⟨HN.out, hyb⟩, rfl, O, S.old.1⟩
theorem a2Web_any (A : Option Addr) (n c : Nat) (xs : List Int) (w : World) (R : Rds w A n 1 (fun x : Int => [.int .u8 x]) xs) (hx : ∀ x ∈ xs, (Lit.int .u8 x).wf = true) :
    Calls Tryz.prog 5 #[.slice A n c] w fun e w' => ∃ (A' : Option Addr) (c' : Nat) (ys : List Int), e = .returned (.slice A' ys.length c') ∧ drawnWeb ys ∧ w'.ownsRow w.heap.size 2 1 (.slice A' ys.length c') ys.length (nums .i64 ys) ∧ Below w.heap.size w w' := by
  go_enter Tryz.func5, Tryz.ntmps5
  go_wp2_with fail
  refine (from_any A n c xs w R hx).mono ?_
  rintro e w1 ⟨g, rfl, S⟩
  go_wp2_with fail
  refine (l02Drawn_any w w1 g S).mono ?_
  rintro e w2 ⟨A', c', ys, hd, rfl, O, hb⟩
  go_wp2_with fail
  go_ret
  exact ⟨A', c', ys, rfl, hd, own_lower O S.old.1.size, hb⟩
end Go.Proofs.YtefipngapgffdaaGreatDoor
