/- Contracts: lists of heaps: compared, marked, held. -/
import Derived.Test.YtppkcihdgedgoaaH4
import Derived.Deep.RegionHeld3
namespace Go.Proofs.Ytppkcihdgedgoaa
open Go.RowKit
set_option linter.unusedVariables false
set_option linter.unusedSimpArgs false
abbrev HE (h : List Int) : List Value := [.int .i32 (h.getD 0 0), .int .i32 (h.getD 1 0), .int .i32 (h.getD 2 0), .int .i32 (h.getD 3 0), .int .i32 (h.getD 4 0), .int .i32 (h.getD 5 0), .int .i32 (h.getD 6 0), .int .i32 (h.getD 7 0)]
theorem HE_len (xs : List (List Int)) : (xs.flatMap HE).length = xs.length * 8 := by
  induction xs with
  | nil => rfl
  | cons x xs ih => simp only [List.flatMap_cons, List.length_append, ih, List.length_cons, List.length_nil]; omega
theorem Rds.heap {w : World} {A : Option Addr} {n : Nat} {xs : List (List Int)} (R : Rds w A n 8 HE xs) {k : Nat} (hk : k < n) :
    ∃ ad x, A = some ad ∧ xs[k]? = some x ∧ w.cell? (ad.add (k * 8)) = some (.int .i32 (x.getD 0 0)) ∧ w.cell? ⟨(ad.add (k * 8)).block, (ad.add (k * 8)).off + 1, none⟩ = some (.int .i32 (x.getD 1 0)) ∧ w.cell? ⟨(ad.add (k * 8)).block, (ad.add (k * 8)).off + 2, none⟩ = some (.int .i32 (x.getD 2 0)) ∧ w.cell? ⟨(ad.add (k * 8)).block, (ad.add (k * 8)).off + 3, none⟩ = some (.int .i32 (x.getD 3 0)) ∧ w.cell? ⟨(ad.add (k * 8)).block, (ad.add (k * 8)).off + 4, none⟩ = some (.int .i32 (x.getD 4 0)) ∧ w.cell? ⟨(ad.add (k * 8)).block, (ad.add (k * 8)).off + 5, none⟩ = some (.int .i32 (x.getD 5 0)) ∧ w.cell? ⟨(ad.add (k * 8)).block, (ad.add (k * 8)).off + 6, none⟩ = some (.int .i32 (x.getD 6 0)) ∧ w.cell? ⟨(ad.add (k * 8)).block, (ad.add (k * 8)).off + 7, none⟩ = some (.int .i32 (x.getD 7 0)) := by
  obtain ⟨ad, h1, h2⟩ := R.2.2 (by omega)
  have hx : xs[k]? = some (xs[k]'(by rw [R.1]; exact hk)) := List.getElem?_eq_getElem _
  refine ⟨ad, _, h1, hx, h2 k _ hx 0 _ rfl, ?_, ?_, ?_, ?_, ?_, ?_, ?_⟩
  · have h := h2 k _ hx 1 _ rfl; rw [← Addr.add_add] at h; exact h
  · have h := h2 k _ hx 2 _ rfl; rw [← Addr.add_add] at h; exact h
  · have h := h2 k _ hx 3 _ rfl; rw [← Addr.add_add] at h; exact h
  · have h := h2 k _ hx 4 _ rfl; rw [← Addr.add_add] at h; exact h
  · have h := h2 k _ hx 5 _ rfl; rw [← Addr.add_add] at h; exact h
  · have h := h2 k _ hx 6 _ rfl; rw [← Addr.add_add] at h; exact h
  · have h := h2 k _ hx 7 _ rfl; rw [← Addr.add_add] at h; exact h
/-- Number j of a heap in a list of such. -/
theorem Rds.heapAt {w : World} {A : Option Addr} {n : Nat} {xs : List (List Int)} (R : Rds w A n 8 HE xs) {k j : Nat} (hk : k < n) (hj : j < 8) :
    ∃ ad x, A = some ad ∧ xs[k]? = some x ∧ w.cell? ((ad.add (k * 8)).add j) = some (.int .i32 (x.getD j 0)) := by
  obtain ⟨ad, h1, h2⟩ := R.2.2 (by omega)
  have hx : xs[k]? = some (xs[k]'(by rw [R.1]; exact hk)) := List.getElem?_eq_getElem _
  refine ⟨ad, _, h1, hx, ?_⟩
  have h8 : j = 0 ∨ j = 1 ∨ j = 2 ∨ j = 3 ∨ j = 4 ∨ j = 5 ∨ j = 6 ∨ j = 7 := by omega
  have h := h2 k _ hx j (.int .i32 ((xs[k]'(by rw [R.1]; exact hk)).getD j 0)) (by rcases h8 with rfl | rfl | rfl | rfl | rfl | rfl | rfl | rfl <;> rfl)
  rw [← Addr.add_add] at h
  exact h
theorem own_rdsH {w : World} {base n c : Nat} {E : TypeId} {A : Option Addr} {xs : List (List Int)} (O : w.ownsRow base E 8 (.slice A n c) n (xs.flatMap HE)) (hn : n ≤ 1048576) : Rds w A n 8 HE xs :=
  own_rds O (fun x _ => rfl) (by omega) (by omega)
def mk32 (k0 : Int) (j : Nat) : List Int := (List.range j).map fun i : Nat => k0 + (i : Int)
theorem mk32_succ (k0 : Int) (j : Nat) : mk32 k0 (j + 1) = mk32 k0 j ++ [k0 + j] := by simp [mk32, List.range_succ]
theorem mk32_length (k0 : Int) (j : Nat) : (mk32 k0 j).length = j := by simp [mk32]
theorem mk32_get {k0 : Int} {n j : Nat} (h : j < n) : (mk32 k0 n)[j]? = some (k0 + j) := by simp [mk32, h]
def hmark (k0 : Int) (j : Nat) : List Int := mk32 (k0 + 8 * (j : Int)) 8
def hmarks (k0 : Int) : Nat → List (List Int)
  | 0 => []
  | j + 1 => hmarks k0 j ++ [hmark k0 j]
theorem hmarks_len (k0 : Int) : ∀ j, (hmarks k0 j).length = j
  | 0 => rfl
  | j + 1 => by simp [hmarks, hmarks_len k0 j]
theorem hmarks_get (k0 : Int) {n j : Nat} (h : j < n) : (hmarks k0 n)[j]? = some (hmark k0 j) := by
  induction n with
  | zero => omega
  | succ n ih =>
    simp only [hmarks]
    by_cases hj : j < n
    · rw [List.getElem?_append_left (by rw [hmarks_len]; exact hj)]; exact ih hj
    · obtain rfl : j = n := by omega
      rw [List.getElem?_append_right (by rw [hmarks_len]; exact Nat.le_refl _), hmarks_len, Nat.sub_self]
      rfl
theorem hmark_at (k0 : Int) (i : Nat) {j : Nat} (h : j < 8) : (hmark k0 i).getD j 0 = k0 + 8 * (i : Int) + (j : Int) := by
  unfold hmark
  rw [List.getD_eq_getElem?_getD, mk32_get h]
  rfl
theorem hmarks_flat (k0 : Int) : ∀ n, (hmarks k0 n).flatMap HE = nums .i32 (mk32 k0 (n * 8))
  | 0 => rfl
  | n + 1 => by
    simp only [hmarks, List.flatMap_append, List.flatMap_cons, List.flatMap_nil, List.append_nil]
    rw [hmarks_flat k0 n, show (n + 1) * 8 = n * 8 + 1 + 1 + 1 + 1 + 1 + 1 + 1 + 1 by omega]
    simp only [mk32_succ, HE]
    rw [hmark_at _ _ (by omega), hmark_at _ _ (by omega), hmark_at _ _ (by omega), hmark_at _ _ (by omega), hmark_at _ _ (by omega), hmark_at _ _ (by omega), hmark_at _ _ (by omega), hmark_at _ _ (by omega)]
    simp only [nums, List.map_append, List.map_cons, List.map_nil, List.append_assoc, List.cons_append, List.nil_append]
    congr 1
    simp only [List.cons.injEq, Value.int.injEq, true_and, and_true]
    omega
theorem grown_set8 {w wr : World} {g : Nat} (h : w.grownBy wr (some g)) (i : Nat) (v : Value) : w.grownBy (wr.setCell ⟨g, i, none⟩ v) (some g) :=
  ⟨h.os, h.tape, h.output, by simpa [World.setCell] using h.size, fun k hk hne => by
    rw [heap_setCell_other _ _ _ _ (by intro e; exact hne (by rw [e]))]; exact h.block k hk hne⟩
theorem marked_set32 {k0 : Int} {j : Nat} {cs : List Value} (h : j < cs.length) : (nums .i32 (mk32 k0 j) ++ cs.drop j).set j (.int .i32 (k0 + j)) = nums .i32 (mk32 k0 (j + 1)) ++ cs.drop (j + 1) := by
  rw [List.drop_eq_getElem_cons h, set_app _ _ _ _ _ (by rw [nums_length, mk32_length]), mk32_succ]
  simp [nums]
set_option maxHeartbeats 2000000 in
theorem eqHeapS_true (A A' : Option Addr) (n c c' : Nat) (xs : List (List Int)) (w : World) (R : Rds w A n 8 HE xs) (R' : Rds w A' n 8 HE xs) :
    Calls Try.prog 19 #[.slice A n c, .slice A' n c'] w fun e w' => e = .returned (.bool true) ∧ Below w.heap.size w w' := by
  have hn := R.2.1
  go_enter Try.func19, Try.ntmps19
  go_wp2_with fail
  go_loopw [5] (fun v wr => ∃ k : Nat, k ≤ n ∧ v = .int .i64 k ∧ Below w.heap.size w wr) (fun v _ => n - (intOf v).toNat)
  case atStart => exact ⟨0, by omega, rfl, Below.refl _ _⟩
  case round =>
    obtain ⟨j, hj, rfl, hB⟩ := hrel
    by_cases hlt : j < n
    · obtain ⟨ad, x, rfl, hx, e0, e1, e2, e3, e4, e5, e6, e7⟩ := (R.below hB).heap hlt
      obtain ⟨ad_, y, rfl, hy, d0, d1, d2, d3, d4, d5, d6, d7⟩ := (R'.below hB).heap hlt
      rw [hx] at hy; cases hy
      clear hx
      go_wp2_with fail
      go_region_held3 (fun w' => w'.cell? (ad.add (j * 8)) = some (.int .i32 (x.getD 0 0)) ∧ w'.cell? ⟨(ad.add (j * 8)).block, (ad.add (j * 8)).off + 1, none⟩ = some (.int .i32 (x.getD 1 0)) ∧ w'.cell? ⟨(ad.add (j * 8)).block, (ad.add (j * 8)).off + 2, none⟩ = some (.int .i32 (x.getD 2 0)) ∧ w'.cell? ⟨(ad.add (j * 8)).block, (ad.add (j * 8)).off + 3, none⟩ = some (.int .i32 (x.getD 3 0)) ∧ w'.cell? ⟨(ad.add (j * 8)).block, (ad.add (j * 8)).off + 4, none⟩ = some (.int .i32 (x.getD 4 0)) ∧ w'.cell? ⟨(ad.add (j * 8)).block, (ad.add (j * 8)).off + 5, none⟩ = some (.int .i32 (x.getD 5 0)) ∧ w'.cell? ⟨(ad.add (j * 8)).block, (ad.add (j * 8)).off + 6, none⟩ = some (.int .i32 (x.getD 6 0)) ∧ w'.cell? ⟨(ad.add (j * 8)).block, (ad.add (j * 8)).off + 7, none⟩ = some (.int .i32 (x.getD 7 0)) ∧ w'.cell? (ad_.add (j * 8)) = some (.int .i32 (x.getD 0 0)) ∧ w'.cell? ⟨(ad_.add (j * 8)).block, (ad_.add (j * 8)).off + 1, none⟩ = some (.int .i32 (x.getD 1 0)) ∧ w'.cell? ⟨(ad_.add (j * 8)).block, (ad_.add (j * 8)).off + 2, none⟩ = some (.int .i32 (x.getD 2 0)) ∧ w'.cell? ⟨(ad_.add (j * 8)).block, (ad_.add (j * 8)).off + 3, none⟩ = some (.int .i32 (x.getD 3 0)) ∧ w'.cell? ⟨(ad_.add (j * 8)).block, (ad_.add (j * 8)).off + 4, none⟩ = some (.int .i32 (x.getD 4 0)) ∧ w'.cell? ⟨(ad_.add (j * 8)).block, (ad_.add (j * 8)).off + 5, none⟩ = some (.int .i32 (x.getD 5 0)) ∧ w'.cell? ⟨(ad_.add (j * 8)).block, (ad_.add (j * 8)).off + 6, none⟩ = some (.int .i32 (x.getD 6 0)) ∧ w'.cell? ⟨(ad_.add (j * 8)).block, (ad_.add (j * 8)).off + 7, none⟩ = some (.int .i32 (x.getD 7 0)))
        (first | exact ⟨e0, e1, e2, e3, e4, e5, e6, e7, d0, d1, d2, d3, d4, d5, d6, d7⟩ | exact ⟨h0, h1, h2, h3, h4, h5, h6, h7, h8, h9, h10, h11, h12, h13, h14, h15⟩ | (refine ⟨?_, ?_, ?_, ?_, ?_, ?_, ?_, ?_, ?_, ?_, ?_, ?_, ?_, ?_, ?_, ?_⟩ <;> first | assumption | go_keep))
        ((go_at_call 42; refine (eqHeap_true _ _ _ _ _ _ _ _ _).mono ?_; rintro e w1 ⟨rfl, hb⟩; have h0 := (hb.cell (World.block_lt_of_cell? _ _ e0)).trans e0; have h1 := (hb.cell (World.block_lt_of_cell? _ _ e1)).trans e1; have h2 := (hb.cell (World.block_lt_of_cell? _ _ e2)).trans e2; have h3 := (hb.cell (World.block_lt_of_cell? _ _ e3)).trans e3; have h4 := (hb.cell (World.block_lt_of_cell? _ _ e4)).trans e4; have h5 := (hb.cell (World.block_lt_of_cell? _ _ e5)).trans e5; have h6 := (hb.cell (World.block_lt_of_cell? _ _ e6)).trans e6; have h7 := (hb.cell (World.block_lt_of_cell? _ _ e7)).trans e7; have h8 := (hb.cell (World.block_lt_of_cell? _ _ d0)).trans d0; have h9 := (hb.cell (World.block_lt_of_cell? _ _ d1)).trans d1; have h10 := (hb.cell (World.block_lt_of_cell? _ _ d2)).trans d2; have h11 := (hb.cell (World.block_lt_of_cell? _ _ d3)).trans d3; have h12 := (hb.cell (World.block_lt_of_cell? _ _ d4)).trans d4; have h13 := (hb.cell (World.block_lt_of_cell? _ _ d5)).trans d5; have h14 := (hb.cell (World.block_lt_of_cell? _ _ d6)).trans d6; have h15 := (hb.cell (World.block_lt_of_cell? _ _ d7)).trans d7; have hB1 := below_then hB.drew hB.drew.size hb))
      go_wp2_with fail
      go_roundw
      case rel => exact ⟨j + 1, by omega, by go_num, by first | exact hB1 | exact hB1.drew⟩
      case measure => simp [intOf]; omega
    · go_wp2_with fail
      go_ret
      exact ⟨rfl, hB⟩
theorem heldHeapS_any (A : Option Addr) (n c : Nat) (k0 : Int) (w : World) (R : Rds w A n 8 HE (hmarks k0 n)) (hn : n ≤ 1000) (h0 : 0 ≤ k0) (h1 : k0 ≤ 100000000) :
    Calls Try.prog 21 #[.slice A n c, .int .i64 k0] w fun e w' => e = .returned (.int .i64 (k0 + 8 * (n : Int))) ∧ w = w' := by
  go_enter Try.func21, Try.ntmps21
  go_wp2_with fail
  go_loop [1, 5] (fun kk v => ∃ k : Nat, k ≤ n ∧ v = .int .i64 k ∧ kk = .int .i64 (k0 + 8 * (k : Int))) (fun _ v => n - (intOf v).toNat)
  case atStart => exact ⟨0, by omega, rfl, by simp⟩
  case round =>
    obtain ⟨j, hj, rfl, rfl⟩ := hrel
    by_cases hlt : j < n
    · go_wp2_with fail
      go_loop [1, 6] (fun kk v => ∃ i : Nat, i ≤ 8 ∧ v = .int .i64 i ∧ kk = .int .i64 (k0 + 8 * (j : Int) + (i : Int))) (fun _ v => 8 - (intOf v).toNat)
      case atStart => exact ⟨0, by omega, rfl, by simp⟩
      case round =>
        obtain ⟨i, hi, rfl, rfl⟩ := hrel
        by_cases hit : i < 8
        · obtain ⟨ad, x, rfl, hx, e0⟩ := R.heapAt hlt hit
          rw [hmarks_get k0 hlt] at hx
          cases hx
          rw [hmark_at k0 j hit] at e0
          have hi1 : (i : Int) < 8 := by omega
          have v1 : IntKind.i32.wrap (k0 + 8 * (j : Int) + (i : Int)) = k0 + 8 * (j : Int) + (i : Int) := IntWalk.i32_in _ (by omega)
          go_wp2_with fail
          clear v1
          go_round
          case rel => exact ⟨i + 1, by omega, by go_num, by show Value.int .i64 _ = Value.int .i64 _; congr 1; omega⟩
          case measure => simp [intOf]; omega
        · have hi1 : ¬ (i : Int) < 8 := by omega
          obtain rfl : i = 8 := by omega
          go_wp2_with fail
          go_round
          case rel => exact ⟨j + 1, by omega, by go_num, by show Value.int .i64 _ = Value.int .i64 _; congr 1; omega⟩
          case measure => simp [intOf]; omega
    · go_wp2_with fail
      go_ret
      obtain rfl : j = n := by omega
      exact ⟨rfl, rfl⟩
set_option maxHeartbeats 1000000 in
theorem markHeapS_any (b E : Nat) (A : Option Addr) (n c : Nat) (xs : List (List Int)) (k0 : Int) (w : World) (O : w.ownsRow b E 8 (.slice A n c) n (xs.flatMap HE)) (hn : n ≤ 1000) (h0 : 0 ≤ k0) (h1 : k0 ≤ 100000000) :
    Calls Try.prog 20 #[.slice A n c, .int .i64 k0] w fun e w' => e = .returned (.int .i64 (k0 + 8 * (n : Int))) ∧ w'.ownsRow b E 8 (.slice A n c) n ((hmarks k0 n).flatMap HE) ∧ w.grownBy w' (Value.ownBlock (.slice A n c)) := by
  rcases Nat.eq_zero_or_pos n with rfl | hpos
  · go_enter Try.func20, Try.ntmps20
    go_wp2_with fail
    go_loop [1, 5] (fun kk v => kk = .int .i64 k0 ∧ v = .int .i64 0) (fun _ _ => 0)
    case atStart => exact ⟨rfl, rfl⟩
    case round =>
      obtain ⟨rfl, rfl⟩ := hrel
      go_wp2_with fail
      go_ret
      exact ⟨by simp, by simpa [hmarks] using (show w.ownsRow b E 8 (.slice A 0 c) 0 [] from by have := O.1; have hx : xs.flatMap HE = [] := List.eq_nil_of_length_eq_zero (by simpa using this); rw [hx] at O; exact O), ⟨rfl, rfl, rfl, Nat.le_refl _, fun _ _ _ => rfl⟩⟩
  · obtain ⟨g, L, rfl, hbg, hrow, hnc, hcm, hlen⟩ := own_row O hpos (by omega)
    have hxl : (xs.flatMap HE).length = n * 8 := by have := O.1; simpa using this
    generalize hcs : xs.flatMap HE ++ L = cs at hrow
    have hcl : cs.length = c * 8 := by rw [← hcs, List.length_append]; simpa using hlen
    clear hcs hlen O
    have HXL := Lib.hid hxl; clear hxl
    have HCL := Lib.hid hcl; clear hcl
    rw [hmarks_flat]
    go_enter Try.func20, Try.ntmps20
    go_wp2_with fail
    go_loopw [1, 5] (fun kk v wr => ∃ k : Nat, k ≤ n ∧ v = .int .i64 k ∧ kk = .int .i64 (k0 + 8 * (k : Int)) ∧ Hid (Row wr g E (nums .i32 (mk32 k0 (k * 8)) ++ cs.drop (k * 8))) ∧ Hid (w.grownBy wr (some g))) (fun _ v _ => n - (intOf v).toNat)
    case atStart => exact ⟨0, by omega, rfl, by simp, Lib.hid (by simpa [mk32, nums] using hrow), Lib.hid ⟨rfl, rfl, rfl, Nat.le_refl _, fun _ _ _ => rfl⟩⟩
    case round =>
      obtain ⟨j, hj, rfl, rfl, hr, hg⟩ := hrel
      clear hrow
      by_cases hlt : j < n
      · go_wp2_with fail
        go_loopw [1, 6] (fun kk v wr => ∃ i : Nat, i ≤ 8 ∧ v = .int .i64 i ∧ kk = .int .i64 (k0 + 8 * (j : Int) + (i : Int)) ∧ Hid (Row wr g E (nums .i32 (mk32 k0 (j * 8 + i)) ++ cs.drop (j * 8 + i))) ∧ Hid (w.grownBy wr (some g))) (fun _ v _ => 8 - (intOf v).toNat)
        case atStart => exact ⟨0, by omega, rfl, by simp, hr, hg⟩
        case round =>
          clear hr hg
          obtain ⟨i, hi, rfl, rfl, hr, hg⟩ := hrel
          by_cases hit : i < 8
          · have hjc : j * 8 + i < cs.length := by rw [HCL.out]; omega
            have hset := Lib.hid (marked_set32 (k0 := k0) hjc)
            have hll : (nums .i32 (mk32 k0 (j * 8 + i)) ++ cs.drop (j * 8 + i)).length = cs.length := by rw [List.length_append, nums_length, mk32_length, List.length_drop]; omega
            obtain ⟨u0, c0⟩ : ∃ u, wr.cell? ⟨g, j * 8 + i, none⟩ = some u := by
              rw [hr.out.cell]
              exact ⟨_, List.getElem?_eq_getElem (by rw [hll]; omega)⟩
            have f0 := hr.out.frozen (j * 8 + i)
            clear hll hjc
            have hi1 : (i : Int) < 8 := by omega
            have v1 : IntKind.i32.wrap (k0 + 8 * (j : Int) + (i : Int)) = k0 + 8 * (j : Int) + (i : Int) := IntWalk.i32_in _ (by omega)
            go_wp2_with fail
            clear v1
            go_roundw
            case rel =>
              refine ⟨i + 1, by omega, by go_num, by show Value.int .i64 _ = Value.int .i64 _; congr 1; omega, Lib.hid ?_, Lib.hid (grown_set8 hg.out _ _)⟩
              have := hr.out.set (j * 8 + i) (.int .i32 (k0 + ((j * 8 + i : Nat) : Int)))
              rw [hset.out] at this
              rw [show k0 + ((j * 8 + i : Nat) : Int) = k0 + 8 * (j : Int) + (i : Int) by omega] at this
              exact this
            case measure => simp [intOf]; omega
          · have hi1 : ¬ (i : Int) < 8 := by omega
            obtain rfl : i = 8 := by omega
            go_wp2_with fail
            go_roundw
            case rel => exact ⟨j + 1, by omega, by go_num, by show Value.int .i64 _ = Value.int .i64 _; congr 1; omega, by rw [show (j + 1) * 8 = j * 8 + 8 by omega]; exact hr, hg⟩
            case measure => simp [intOf]; omega
      · go_wp2_with fail
        go_ret
        obtain rfl : j = n := by omega
        exact ⟨rfl, own_of_row hr.out hbg hnc hcm (by rw [nums_length, mk32_length]) (by rw [nums_length, mk32_length, List.length_drop, HCL.out]; omega), by simpa [Value.ownBlock] using hg.out⟩
end Go.Proofs.Ytppkcihdgedgoaa
