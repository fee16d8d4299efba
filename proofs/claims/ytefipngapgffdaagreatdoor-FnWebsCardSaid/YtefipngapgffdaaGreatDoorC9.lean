/- Contracts: slices.Concat of two lists. -/
import Derived.Test.YtefipngapgffdaaGreatDoorC8
namespace Go.Proofs.YtefipngapgffdaaGreatDoor
open Go.RowKit
set_option linter.unusedVariables false
set_option linter.unusedSimpArgs false
theorem rds_news {w : World} {ad : Addr} {n : Nat} {xs : List Int} (R : Rds w (some ad) n 1 (fun x : Int => [.int .i64 x]) xs) : ∀ j u, (nums .i64 xs)[j]? = some u → w.cell? (ad.add j) = some u := by
  intro j u hu
  rw [nums_get] at hu
  obtain ⟨x, hx, rfl⟩ := Option.map_eq_some_iff.1 hu
  exact R.cellOf hx
theorem one_nums (xs : List Int) : ∀ u ∈ nums .i64 xs, u.oneCell' = true := by
  intro u hu
  obtain ⟨x, _, rfl⟩ := List.mem_map.1 hu
  rfl
theorem own_slice {w : World} {b e s n : Nat} {v : Value} {xs : List Value} (h : w.ownsRow b e s v n xs) : ∃ A c, v = .slice A n c := by
  rcases h.2 with ⟨rfl, h0⟩ | ⟨g, cap, cur, rfl, _⟩
  · exact ⟨none, 0, by rw [h0]⟩
  · exact ⟨_, _, rfl⟩
set_option maxRecDepth 20000 in
set_option maxHeartbeats 2000000 in
theorem concat_any (g E2 n1 c1 n2 c2 : Nat) (ad1 ad2 : Addr) (xs ys : List Int) (w : World) (r : Hid (Row w g E2 [.slice (some ad1) n1 c1, .slice (some ad2) n2 c2]))
    (R1 : Rds w (some ad1) n1 1 (fun x : Int => [.int .i64 x]) xs) (R2 : Rds w (some ad2) n2 1 (fun x : Int => [.int .i64 x]) ys) (h1 : 0 < n1) (h2 : n1 + n2 ≤ 1000) :
    Calls Tryz.prog 76 #[.slice (some ⟨g, 0, none⟩) 2 2] w (RetOwn 2 1 (n1 + n2) (nums .i64 (xs ++ ys)) w) := by
  obtain ⟨i0, hi, hzz⟩ := Option.map_eq_some_iff.1 info_i64
  simp only [Prod.mk.injEq] at hzz
  obtain ⟨hz0, hz1, hz2⟩ := hzz
  have HI := Lib.hid hi; have HZ0 := Lib.hid hz0; have HZ1 := Lib.hid hz1; have HZ2 := Lib.hid hz2; clear hi hz0 hz1 hz2
  have e0 := r.out.cell 0
  have e1 := r.out.cell 1
  simp only [List.getElem?_cons_zero, List.getElem?_cons_succ] at e0 e1
  have hgl := r.out.lt
  have hx1 := R1.1
  have hx2 := R2.1
  have HX1 := Lib.hid hx1; have HX2 := Lib.hid hx2; clear hx1 hx2
  go_enter Tryz.func76, Tryz.ntmps76
  go_wp2_with fail
  go_loop [3, 11] (fun s v => ∃ k : Nat, k ≤ 2 ∧ v = .int .i64 k ∧ s = .int .i64 (if k = 0 then 0 else if k = 1 then (n1 : Int) else ((n1 + n2 : Nat) : Int))) (fun _ v => 2 - (intOf v).toNat)
  case atStart => exact ⟨0, by omega, rfl, rfl⟩
  case round =>
  obtain ⟨k, hk, rfl, rfl⟩ := hrel
  have hk3 : k = 0 ∨ k = 1 ∨ k = 2 := by omega
  rcases hk3 with rfl | rfl | rfl
  · simp only [if_true]
    go_wp2_with fail
    go_round
    case rel => exact ⟨1, by omega, by rfl, by simp⟩
    case measure => simp [intOf]
  · simp only [if_true, if_false, show ¬ (1 = 0) from by omega]
    go_wp2_with fail
    go_round
    case rel => exact ⟨2, by omega, by rfl, by simp⟩
    case measure => simp [intOf]
  simp only [if_false, show ¬ (2 = 0) from by omega, show ¬ (2 = 1) from by omega]
  go_wp2_with fail
  refine (grow_any (n1 + n2) _ (by omega) h2).mono ?_
  rintro e w1 ⟨A0, c0, rfl, O, hb⟩
  have r1 := Lib.hid (r.out.below hb)
  have HW1 := Lib.hid hb
  clear e0 e1 hb
  go_wp2_with fail
  go_loopw [6, 27] (fun s v wr => ∃ (k : Nat) (A' : Option Addr) (c' : Nat), k ≤ 2 ∧ v = .int .i64 k ∧ s = .slice A' (if k = 0 then 0 else if k = 1 then n1 else n1 + n2) c' ∧ Hid (wr.ownsRow w.heap.size 2 1 (.slice A' (if k = 0 then 0 else if k = 1 then n1 else n1 + n2) c') (if k = 0 then 0 else if k = 1 then n1 else n1 + n2) (nums .i64 (if k = 0 then [] else if k = 1 then xs else xs ++ ys))) ∧ Hid (Below w.heap.size w wr)) (fun _ v _ => 2 - (intOf v).toNat)
  case atStart => exact ⟨0, _, _, by omega, rfl, rfl, Lib.hid O, HW1⟩
  case round =>
    obtain ⟨k, A', c', hk, rfl, rfl, O', HB⟩ := hrel
    clear O
    have q0 := (r.out.below HB.out).cell 0
    have q1 := (r.out.below HB.out).cell 1
    simp only [List.getElem?_cons_zero, List.getElem?_cons_succ] at q0 q1
    have hk3 : k = 0 ∨ k = 1 ∨ k = 2 := by omega
    rcases hk3 with rfl | rfl | rfl
    · have O2 := Lib.hid (show wr.ownsRow w.heap.size 2 1 (.slice A' 0 c') 0 (nums .i64 []) from O'.out)
      clear O'
      go_wp2_with ((at_builtin; refine wpList_append_own _ (by rfl) _ _ 24 (by rfl) w.heap.size 2 i0 (.int .i64 0) 1 8 Tryz.underlying24 HI.out HZ0.out HZ1.out HZ2.out rfl (by omega) _ 0 _ (by rfl) O2.out ad1 n1 c1 (nums .i64 xs) (by rfl) (by rw [nums_length, HX1.out, Nat.mul_one]) (rds_news (R1.below HB.out)) (one_nums xs) (by simp only [maxLen]; omega) (by omega) HB.out.size ?_; intro v2 w2 O3 hg2 _))
      obtain ⟨A2, c2_, rfl⟩ := own_slice O3
      have hB3 := Lib.hid (HB.out.grown hg2 HB.out.size (fun k hk => (own_base O2.out k hk).1))
      have O4 := Lib.hid O3
      clear hg2 O3
      go_wp2_with fail
      go_roundw
      case rel => exact ⟨1, A2, c2_, by omega, by rfl, by rw [Nat.zero_add]; rfl, Lib.hid (by have := O4.out; rw [Nat.zero_add] at this; simpa [nums] using this), hB3⟩
      case measure => simp [intOf]
    · have O2 := Lib.hid (show wr.ownsRow w.heap.size 2 1 (.slice A' n1 c') n1 (nums .i64 xs) from O'.out)
      clear O'
      go_wp2_with ((at_builtin; refine wpList_append_own _ (by rfl) _ _ 24 (by rfl) w.heap.size 2 i0 (.int .i64 0) 1 8 Tryz.underlying24 HI.out HZ0.out HZ1.out HZ2.out rfl (by omega) _ n1 _ (by rfl) O2.out ad2 n2 c2 (nums .i64 ys) (by rfl) (by rw [nums_length, HX2.out, Nat.mul_one]) (rds_news (R2.below HB.out)) (one_nums ys) (by simp only [maxLen]; omega) (by omega) HB.out.size ?_; intro v2 w2 O3 hg2 _))
      obtain ⟨A2, c2_, rfl⟩ := own_slice O3
      have hB3 := Lib.hid (HB.out.grown hg2 HB.out.size (fun k hk => (own_base O2.out k hk).1))
      have O4 := Lib.hid O3
      clear hg2 O3
      go_wp2_with fail
      go_roundw
      case rel => exact ⟨2, A2, c2_, by omega, by rfl, by rfl, Lib.hid (by have := O4.out; simpa [nums] using this), hB3⟩
      case measure => simp [intOf]
    · have O2 := Lib.hid (show wr.ownsRow w.heap.size 2 1 (.slice A' (n1 + n2) c') (n1 + n2) (nums .i64 (xs ++ ys)) from O'.out)
      clear O'
      go_wp2_with fail
      go_ret
      exact ⟨A', c', rfl, O2.out, HB.out⟩
end Go.Proofs.YtefipngapgffdaaGreatDoor
