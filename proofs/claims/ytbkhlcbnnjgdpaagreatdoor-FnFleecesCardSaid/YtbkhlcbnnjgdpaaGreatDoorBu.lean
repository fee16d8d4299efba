/- Contracts of areAll, slices.ContainsFunc and slices.IndexFunc over lists of fleeces; Contracts: the grades of fleeces: their codes, their bounds, a grade; Contracts: the code of a list of fleeces, on both sides; GradesOf; Contracts: GradesOf, on both sides; Contracts: lists of heaps: compared, marked, held; The plain law of GradeHeaps: heaps summed up by grade. -/
import Derived.Test.YtbkhlcbnnjgdpaaGreatDoorBh
import Derived.Test.YtbkhlcbnnjgdpaaGreatDoorBa
import Derived.OwnWalk
import Derived.Deep.AppendLies
import Derived.Deep.RegionHeld3
namespace Go.Proofs.YtbkhlcbnnjgdpaaGreatDoor
open Go.RowKit
set_option linter.unusedVariables false
set_option linter.unusedSimpArgs false
set_option maxHeartbeats 1000000 in
theorem indexFunc_F {k : FuncId} {cap : Array Value} {p : Int × List Int → Bool} {I : World → Prop} {xs : List (Int × List Int)} (hI : ∀ w w', I w → Below w.heap.size w w' → I w')
    (hk : Enters Tryz.prog k) (hf : Hid (∀ f a0 a1 a2 a3 a4 a5 a6 a7 w, (f, [a0, a1, a2, a3, a4, a5, a6, a7]) ∈ xs → I w → Calls Tryz.prog k (#[.agg #[.int .i8 f, .int .i32 a0, .int .i32 a1, .int .i32 a2, .int .i32 a3, .int .i32 a4, .int .i32 a5, .int .i32 a6, .int .i32 a7]] ++ cap) w fun e w' => e = .returned (.bool (p (f, [a0, a1, a2, a3, a4, a5, a6, a7]))) ∧ Below w.heap.size w w')) (h8 : Hid (∀ x ∈ xs, x.2.length = 8))
    (A : Option Addr) (n c : Nat) (w : World) (R : Rds w A n 9 FlC xs) (hw : I w) :
    Calls Tryz.prog 105 #[.slice A n c, .func (.func k) #[] cap] w fun e w' => e = .returned (.int .i64 (idxF p xs)) ∧ Below w.heap.size w w' := by
  have hl := R.1
  have hn := R.2.1
  have HL := Lib.hid hl; clear hl
  have HI := Lib.hid hI; clear hI
  have hk' : ∀ args w, (callFunc k args).run Tryz.prog w = .ok (.enter k args) w := hk
  clear hk
  go_enter Tryz.func105, Tryz.ntmps105
  go_wp2_with fail
  go_loopw [4, 8] (fun r v wr => ∃ k : Nat, k ≤ n ∧ v = .int .i64 k ∧ r = .int .i64 0 ∧ NotYet p xs k ∧ Below w.heap.size w wr ∧ I wr) (fun _ v _ => n - (intOf v).toNat)
  case atStart => exact ⟨0, by omega, rfl, rfl, NotYet.zero _ _, Below.refl _ _, hw⟩
  case round =>
    obtain ⟨j, hj, rfl, rfl, hny, hB, hIr⟩ := hrel
    by_cases hlt : j < n
    · obtain ⟨ad, x, rfl, hx, hm, hc0, hc⟩ := (R.below hB).cells hlt
      obtain ⟨f, L⟩ := x
      obtain ⟨a0, a1, a2, a3, a4, a5, a6, a7, rfl⟩ := heap8 (h8.out _ hm)
      have e0 : wr.cell? (ad.add (j * 9)) = some (.int .i8 f) := hc0 _ rfl
      have e1 : wr.cell? ⟨(ad.add (j * 9)).block, (ad.add (j * 9)).off + 1, none⟩ = some (.int .i32 a0) := hc 0 _ rfl
      have e2 : wr.cell? ⟨(ad.add (j * 9)).block, (ad.add (j * 9)).off + 2, none⟩ = some (.int .i32 a1) := hc 1 _ rfl
      have e3 : wr.cell? ⟨(ad.add (j * 9)).block, (ad.add (j * 9)).off + 3, none⟩ = some (.int .i32 a2) := hc 2 _ rfl
      have e4 : wr.cell? ⟨(ad.add (j * 9)).block, (ad.add (j * 9)).off + 4, none⟩ = some (.int .i32 a3) := hc 3 _ rfl
      have e5 : wr.cell? ⟨(ad.add (j * 9)).block, (ad.add (j * 9)).off + 5, none⟩ = some (.int .i32 a4) := hc 4 _ rfl
      have e6 : wr.cell? ⟨(ad.add (j * 9)).block, (ad.add (j * 9)).off + 6, none⟩ = some (.int .i32 a5) := hc 5 _ rfl
      have e7 : wr.cell? ⟨(ad.add (j * 9)).block, (ad.add (j * 9)).off + 7, none⟩ = some (.int .i32 a6) := hc 6 _ rfl
      have e8 : wr.cell? ⟨(ad.add (j * 9)).block, (ad.add (j * 9)).off + 8, none⟩ = some (.int .i32 a7) := hc 7 _ rfl
      clear hc hc0
      have HX := Lib.hid hx; clear hx
      have HM := Lib.hid hm; clear hm
      have HNY := Lib.hid hny; clear hny
      go_wp2_with ((with_reducible refine (hf.out _ _ _ _ _ _ _ _ _ _ HM.out hIr).mono ?_); rintro e w1 ⟨rfl, hb1⟩)
      · go_ret
        exact ⟨by rw [idxF_at HNY.out HX.out (by assumption)]; rfl, below_then hB hB.size hb1⟩
      · go_roundw
        case rel => exact ⟨j + 1, by omega, by go_num, rfl, HNY.out.step HX.out (by simp_all), below_then hB hB.size hb1, HI.out _ _ hIr hb1⟩
        case measure => simp [intOf]; omega
    · go_wp2_with fail
      go_ret
      have hjn : j = xs.length := by rw [HL.out]; omega
      exact ⟨by rw [idxF_none (hjn ▸ hny)]; rfl, hB⟩
theorem containsFunc_F {k : FuncId} {cap : Array Value} {p : Int × List Int → Bool} {I : World → Prop} {xs : List (Int × List Int)} (hI : ∀ w w', I w → Below w.heap.size w w' → I w')
    (hk : Enters Tryz.prog k) (hf : Hid (∀ f a0 a1 a2 a3 a4 a5 a6 a7 w, (f, [a0, a1, a2, a3, a4, a5, a6, a7]) ∈ xs → I w → Calls Tryz.prog k (#[.agg #[.int .i8 f, .int .i32 a0, .int .i32 a1, .int .i32 a2, .int .i32 a3, .int .i32 a4, .int .i32 a5, .int .i32 a6, .int .i32 a7]] ++ cap) w fun e w' => e = .returned (.bool (p (f, [a0, a1, a2, a3, a4, a5, a6, a7]))) ∧ Below w.heap.size w w')) (h8 : Hid (∀ x ∈ xs, x.2.length = 8))
    (A : Option Addr) (n c : Nat) (w : World) (R : Rds w A n 9 FlC xs) (hw : I w) :
    Calls Tryz.prog 90 #[.slice A n c, .func (.func k) #[] cap] w fun e w' => e = .returned (.bool (xs.any p)) ∧ Below w.heap.size w w' := by
  have HI := Lib.hid hI; clear hI
  have HK := Lib.hid hk; clear hk
  go_enter Tryz.func90, Tryz.ntmps90
  go_wp2_with (go_at_call 105; (with_reducible refine (indexFunc_F HI.out HK.out hf h8 A n c _ R hw).mono ?_); rintro e w1 ⟨rfl, hb⟩)
  go_ret
  exact ⟨by rw [← idxF_any]; rfl, hb⟩
theorem areAll1_F {k : FuncId} {p : Int × List Int → Bool} (hk : Enters Tryz.prog k) (f a0 a1 a2 a3 a4 a5 a6 a7 : Int) (b : Nat) (w : World) (hc : w.cell? ⟨b, 0, none⟩ = some (.func (.func k) #[] #[]))
    (hf : Hid (∀ w1, Below w.heap.size w w1 → Calls Tryz.prog k #[.agg #[.int .i8 f, .int .i32 a0, .int .i32 a1, .int .i32 a2, .int .i32 a3, .int .i32 a4, .int .i32 a5, .int .i32 a6, .int .i32 a7]] w1 fun e w' => e = .returned (.bool (p (f, [a0, a1, a2, a3, a4, a5, a6, a7]))) ∧ Below w1.heap.size w1 w')) :
    Calls Tryz.prog 91 #[.agg #[.int .i8 f, .int .i32 a0, .int .i32 a1, .int .i32 a2, .int .i32 a3, .int .i32 a4, .int .i32 a5, .int .i32 a6, .int .i32 a7], .pointer (some ⟨b, 0, none⟩)] w fun e w' => e = .returned (.bool (!p (f, [a0, a1, a2, a3, a4, a5, a6, a7]))) ∧ Below w.heap.size w w' := by
  have hk' : ∀ args w, (callFunc k args).run Tryz.prog w = .ok (.enter k args) w := hk
  clear hk
  have hlt := World.block_lt_of_cell? _ _ hc
  have hB := below_alloc1 w (.cells #[.int .i8 f, .int .i32 a0, .int .i32 a1, .int .i32 a2, .int .i32 a3, .int .i32 a4, .int .i32 a5, .int .i32 a6, .int .i32 a7] 58)
  go_enter Tryz.func91, Tryz.ntmps91
  go_wp2_with ((with_reducible refine (hf.out _ hB).mono ?_); rintro e w1 ⟨rfl, hb⟩)
  go_ret
  exact ⟨rfl, below_then hB hB.size hb⟩
/-- areAll: whether all elements are as the function k says. -/
theorem areAll_F {k : FuncId} {p : Int × List Int → Bool} {xs : List (Int × List Int)} (hk : Enters Tryz.prog k) (hf : Hid (∀ f a0 a1 a2 a3 a4 a5 a6 a7 w, (f, [a0, a1, a2, a3, a4, a5, a6, a7]) ∈ xs → Calls Tryz.prog k #[.agg #[.int .i8 f, .int .i32 a0, .int .i32 a1, .int .i32 a2, .int .i32 a3, .int .i32 a4, .int .i32 a5, .int .i32 a6, .int .i32 a7]] w fun e w' => e = .returned (.bool (p (f, [a0, a1, a2, a3, a4, a5, a6, a7]))) ∧ Below w.heap.size w w')) (h8 : Hid (∀ x ∈ xs, x.2.length = 8))
    (A : Option Addr) (n c : Nat) (w : World) (R : Rds w A n 9 FlC xs) :
    Calls Tryz.prog 70 #[.slice A n c, .func (.func k) #[] #[]] w fun e w' => e = .returned (.bool (xs.all p)) ∧ Below w.heap.size w w' := by
  have HK := Lib.hid hk; clear hk
  have R1 := R.below (below_alloc1 w (.cells #[.func (.func k) #[] #[]] 104))
  clear R
  go_enter Tryz.func70, Tryz.ntmps70
  go_wp2_with (go_at_call 90; (refine (containsFunc_F (k := 91) (cap := #[.pointer (some ⟨w.heap.size, 0, none⟩)]) (p := fun x => !p x) (I := fun w' => w'.cell? ⟨w.heap.size, 0, none⟩ = some (.func (.func k) #[] #[])) (xs := xs) ?_ (enters_of Tryz.func91 rfl (by decide)) ?_ h8 A n c _ R1 ?_).mono ?_); rotate_left 3; rintro e w1 ⟨rfl, hb⟩)
  case refine_1 => exact fun w1 w2 h hb => (hb.cell (World.block_lt_of_cell? _ _ h)).trans h
  case refine_2 => exact fun f a0 a1 a2 a3 a4 a5 a6 a7 w1 hx hc => areAll1_F HK.out f a0 a1 a2 a3 a4 a5 a6 a7 _ w1 hc (Lib.hid fun w2 _ => hf.out f a0 a1 a2 a3 a4 a5 a6 a7 w2 hx)
  case refine_3 => simp [go_sem]
  go_ret
  exact ⟨by simp [any_not], below_then (below_alloc1 w _) (by go_size) hb⟩
end Go.Proofs.YtbkhlcbnnjgdpaaGreatDoor
namespace Go.Proofs.YtbkhlcbnnjgdpaaGreatDoor
open Go.RowKit
set_option linter.unusedVariables false
set_option linter.unusedSimpArgs false
/-- Number j of a list is out of its bounds, or no greater than the one before. -/
def badAt (xs : List Int) (j : Nat) : Bool := !inB (gd xs j) 1 9 || (decide (0 < j) && decide (gd xs j ≤ gd xs (j - 1)))
def risOk (xs : List Int) : Bool := (List.range xs.length).all fun j => !badAt xs j
theorem ris_no {xs : List Int} {j : Nat} (hj : j < xs.length) (h : badAt xs j = true) : risOk xs = false := by
  unfold risOk
  rw [List.all_eq_false]
  exact ⟨j, List.mem_range.2 hj, by simp [h]⟩
theorem ris_yes {xs : List Int} (h : ∀ j, j < xs.length → badAt xs j = false) : risOk xs = true := by
  unfold risOk
  rw [List.all_eq_true]
  intro j hj
  simp [h j (List.mem_range.1 hj)]
theorem bad_in {xs : List Int} {j : Nat} {x : Int} (hx : xs[j]? = some x) (h : inB x 1 9 = false) : badAt xs j = true := by
  unfold badAt
  rw [gd_of hx, h]
  rfl
theorem bad_first {xs : List Int} {x : Int} {j : Nat} (hj : j ≤ 0) (hx : xs[j]? = some x) (h : inB x 1 9 = true) : badAt xs j = false := by
  obtain rfl : j = 0 := by omega
  unfold badAt
  rw [gd_of hx, h]
  rfl
theorem bad_next {xs : List Int} {j q : Nat} {x y : Int} (hq : j = q + 1) (hx : xs[j]? = some x) (hy : xs[q]? = some y) (h : inB x 1 9 = true) : badAt xs j = decide (x ≤ y) := by
  subst hq
  unfold badAt
  rw [gd_of hx, h, show q + 1 - 1 = q from rfl, gd_of hy]
  simp
theorem upto_succ {P : Nat → Prop} {k : Nat} (h : ∀ j, j < k → P j) (hk : P k) : ∀ j, j < k + 1 → P j := by
  intro j hj
  by_cases h1 : j < k
  · exact h j h1
  · obtain rfl : j = k := by omega
    exact hk
set_option maxHeartbeats 1000000 in
theorem areIncreasing_any (A : Option Addr) (n c : Nat) (xs : List Int) (w : World) (R : Rds w A n 1 (fun x : Int => [.int .i64 x]) xs) :
    Calls Tryz.prog 81 #[.slice A n c, .int .i64 1, .int .i64 9] w fun e w' => e = .returned (.bool (risOk xs)) ∧ w = w' := by
  have hn := R.2.1
  have HXL := Lib.hid R.1
  go_enter Tryz.func81, Tryz.ntmps81
  go_wp2_with fail
  go_loop [11] (fun v => ∃ k : Nat, k ≤ n ∧ v = .int .i64 k ∧ Hid (∀ j, j < k → badAt xs j = false)) (fun v => n - (intOf v).toNat)
  case atStart => exact ⟨0, by omega, rfl, Lib.hid (fun j h => absurd h (Nat.not_lt_zero _))⟩
  case round =>
    obtain ⟨k, hk, rfl, H⟩ := hrel
    by_cases hlt : k < n
    · obtain ⟨ad, x, rfl, hx, e0⟩ := R.at1 hlt
      have HX := Lib.hid hx; clear hx
      cases hin : inB x 1 9
      · have e1 := Lib.hid (ris_no (xs := xs) (j := k) (by rw [HXL.out]; exact hlt) (bad_in HX.out hin))
        go_wp2_with (go_at_call 40; (refine (within_any _ _ _ _).mono ?_); rintro e w' ⟨rfl, rfl⟩; rw [hin])
        go_ret
        exact ⟨ret_bool e1.out.symm, rfl⟩
      · rcases Nat.lt_or_ge 0 k with hkp0 | hk0
        rotate_left
        · have e1 := Lib.hid (bad_first hk0 HX.out hin)
          have hk00 : ¬ (0 : Int) < (k : Int) := by omega
          go_wp2_with (go_at_call 40; (refine (within_any _ _ _ _).mono ?_); rintro e w' ⟨rfl, rfl⟩; rw [hin])
          go_round
          case rel => exact ⟨k + 1, by omega, by go_num, Lib.hid (upto_succ H.out e1.out)⟩
          case measure => simp [intOf]; omega
        · obtain ⟨q, hq⟩ : ∃ q, k = q + 1 := ⟨k - 1, by omega⟩
          obtain ⟨ad_, y, had, hy, d0⟩ := R.at1 (show q < n by omega)
          cases had
          have e1 := Lib.hid (bad_next hq HX.out hy hin)
          have hk1 : (k : Int) - 1 = (q : Int) := by omega
          have hkp : (0 : Int) < (k : Int) := by omega
          have HQ := Lib.hid hq
          clear hy hq
          by_cases hle : x ≤ y
          · have e2 := Lib.hid (ris_no (xs := xs) (j := k) (by rw [HXL.out]; exact hlt) (by rw [e1.out]; simpa using hle))
            go_wp2_with (go_at_call 40; (refine (within_any _ _ _ _).mono ?_); rintro e w' ⟨rfl, rfl⟩; rw [hin])
            go_ret
            exact ⟨ret_bool e2.out.symm, rfl⟩
          · have e2 : Hid (badAt xs k = false) := Lib.hid (by rw [e1.out]; simpa using hle)
            go_wp2_with (go_at_call 40; (refine (within_any _ _ _ _).mono ?_); rintro e w' ⟨rfl, rfl⟩; rw [hin])
            go_round
            case rel => exact ⟨k + 1, by omega, by go_num, Lib.hid (upto_succ H.out e2.out)⟩
            case measure => simp [intOf]; omega
    · obtain rfl : k = n := by omega
      go_wp2_with fail
      go_ret
      exact ⟨ret_bool (ris_yes (fun j hj => H.out j (by rw [← HXL.out]; exact hj))).symm, rfl⟩
set_option maxHeartbeats 1000000 in
theorem l01Bounds_any (A : Option Addr) (n c : Nat) (xs : List Int) (w : World) (R : Rds w A n 1 (fun x : Int => [.int .i64 x]) xs) :
    Calls Tryz.prog 59 #[.slice A n c] w fun e w' => e = .returned (.bool (risOk xs)) ∧ Below w.heap.size w w' := by
  have hn := R.2.1
  have HXL := Lib.hid R.1
  go_enter Tryz.func59, Tryz.ntmps59
  go_wp2_with fail
  go_loopw [3] (fun v wr => ∃ k : Nat, k ≤ n ∧ v = .int .i64 k ∧ Hid (∀ j, j < k → badAt xs j = false) ∧ Below w.heap.size w wr) (fun v _ => n - (intOf v).toNat)
  case atStart => exact ⟨0, by omega, rfl, Lib.hid (fun j h => absurd h (Nat.not_lt_zero _)), Below.refl _ _⟩
  case round =>
    obtain ⟨k, hk, rfl, H, hB⟩ := hrel
    by_cases hlt : k < n
    · obtain ⟨ad, x, rfl, hx, e0⟩ := (R.below hB).at1 hlt
      have HX := Lib.hid hx; clear hx
      cases hin : inB x 1 9
      · have e1 := Lib.hid (ris_no (xs := xs) (j := k) (by rw [HXL.out]; exact hlt) (bad_in HX.out hin))
        go_wp2_with fail
        go_quiet ((go_at_call 41; exact Calls.quiet_of_same ((l00In_any _ _ _ _).mono fun e w2 ⟨h1, h2⟩ => ⟨by rw [h1, hin], h2.symm⟩)))
        go_wp2_with fail
        go_ret
        exact ⟨ret_bool e1.out.symm, hB.trans (Joins.below_draws _ _ _)⟩
      · rcases Nat.lt_or_ge 0 k with hkp0 | hk0
        rotate_left
        · have e1 := Lib.hid (bad_first hk0 HX.out hin)
          have hk00 : ¬ (0 : Int) < (k : Int) := by omega
          go_wp2_with fail
          have hk01 : ¬ 0 < k := by omega
          go_quiet ((go_at_call 41; exact Calls.quiet_of_same ((l00In_any _ _ _ _).mono fun e w2 ⟨h1, h2⟩ => ⟨by rw [h1, hin], h2.symm⟩)))
          go_wp2_with fail
          go_roundw
          case rel => exact ⟨k + 1, by omega, by go_num, Lib.hid (upto_succ H.out e1.out), hB.trans (Joins.below_draws _ _ _)⟩
          case measure => simp [intOf]; omega
        · obtain ⟨q, hq⟩ : ∃ q, k = q + 1 := ⟨k - 1, by omega⟩
          obtain ⟨ad_, y, had, hy, d0⟩ := (R.below hB).at1 (show q < n by omega)
          cases had
          have e1 := Lib.hid (bad_next hq HX.out hy hin)
          have hk1 : (k : Int) - 1 = (q : Int) := by omega
          have hkp : (0 : Int) < (k : Int) := by omega
          have HQ := Lib.hid hq
          clear hy hq
          by_cases hle : x ≤ y
          · have e2 := Lib.hid (ris_no (xs := xs) (j := k) (by rw [HXL.out]; exact hlt) (by rw [e1.out]; simpa using hle))
            go_wp2_with fail
            go_quiet ((go_at_call 41; exact Calls.quiet_of_same ((l00In_any _ _ _ _).mono fun e w2 ⟨h1, h2⟩ => ⟨by rw [h1, hin], h2.symm⟩)))
            go_wp2_with fail
            go_ret
            exact ⟨ret_bool e2.out.symm, hB.trans (Joins.below_draws _ _ _)⟩
          · have e2 : Hid (badAt xs k = false) := Lib.hid (by rw [e1.out]; simpa using hle)
            go_wp2_with fail
            go_quiet ((go_at_call 41; exact Calls.quiet_of_same ((l00In_any _ _ _ _).mono fun e w2 ⟨h1, h2⟩ => ⟨by rw [h1, hin], h2.symm⟩)))
            go_wp2_with fail
            go_roundw
            case rel => exact ⟨k + 1, by omega, by go_num, Lib.hid (upto_succ H.out e2.out), hB.trans (Joins.below_draws _ _ _)⟩
            case measure => simp [intOf]; omega
    · obtain rfl : k = n := by omega
      go_wp2_with fail
      go_ret
      exact ⟨ret_bool (ris_yes (fun j hj => H.out j (by rw [← HXL.out]; exact hj))).symm, hB⟩
/-- How many numbers are at most f. -/
def cntTo (xs : List Int) (f : Int) : Nat → Int
  | 0 => 0
  | k + 1 => cntTo xs f k + if gd xs k ≤ f then 1 else 0
def cntL (xs : List Int) (f : Int) : Int := cntTo xs f xs.length
theorem cntTo_bd (xs : List Int) (f : Int) : ∀ k, 0 ≤ cntTo xs f k ∧ cntTo xs f k ≤ k
  | 0 => ⟨Int.le_refl _, Int.le_refl _⟩
  | k + 1 => by
    have := cntTo_bd xs f k
    unfold cntTo
    split <;> omega
theorem cnt_yes {xs : List Int} {f x : Int} {k : Nat} (hx : xs[k]? = some x) (h : x ≤ f) : cntTo xs f (k + 1) = cntTo xs f k + 1 := by
  rw [cntTo, gd_of hx, if_pos h]
theorem cnt_no {xs : List Int} {f x : Int} {k : Nat} (hx : xs[k]? = some x) (h : ¬ x ≤ f) : cntTo xs f (k + 1) = cntTo xs f k := by
  rw [cntTo, gd_of hx, if_neg h, Int.add_zero]
theorem l01Grade_any (A : Option Addr) (n c : Nat) (xs : List Int) (f : Int) (w : World) (R : Rds w A n 1 (fun x : Int => [.int .i64 x]) xs) :
    Calls Tryz.prog 60 #[.int .i64 f, .slice A n c] w fun e w' => e = .returned (.int .i64 (cntL xs f)) ∧ w = w' := by
  have hn := R.2.1
  have HXL := Lib.hid R.1
  go_enter Tryz.func60, Tryz.ntmps60
  go_wp2_with fail
  go_loop [5, 6] (fun s v => ∃ k : Nat, k ≤ n ∧ v = .int .i64 k ∧ s = .int .i64 (cntTo xs f k)) (fun _ v => n - (intOf v).toNat)
  case atStart => exact ⟨0, by omega, rfl, rfl⟩
  case round =>
    obtain ⟨k, hk, rfl, rfl⟩ := hrel
    have hb := cntTo_bd xs f k
    by_cases hlt : k < n
    · obtain ⟨ad, x, rfl, hx, e0⟩ := R.at1 hlt
      have HX := Lib.hid hx; clear hx
      by_cases hle : x ≤ f
      · have e1 := Lib.hid (cnt_yes HX.out hle)
        go_wp2_with fail
        go_round
        case rel => exact ⟨k + 1, by omega, by go_num, by rw [e1.out]⟩
        case measure => simp [intOf]; omega
      · have e1 := Lib.hid (cnt_no HX.out hle)
        go_wp2_with fail
        go_round
        case rel => exact ⟨k + 1, by omega, by go_num, by rw [e1.out]⟩
        case measure => simp [intOf]; omega
    · obtain rfl : k = n := by omega
      go_wp2_with fail
      go_ret
      exact ⟨by unfold cntL; rw [HXL.out]; rfl, rfl⟩
theorem grade_any (A : Option Addr) (n c : Nat) (xs : List Int) (f a0 a1 a2 a3 a4 a5 a6 a7 : Int) (w : World) (R : Rds w A n 1 (fun x : Int => [.int .i64 x]) xs) (hf : -128 ≤ f ∧ f ≤ 127) :
    Calls Tryz.prog 57 #[.agg #[.int .i8 f, .int .i32 a0, .int .i32 a1, .int .i32 a2, .int .i32 a3, .int .i32 a4, .int .i32 a5, .int .i32 a6, .int .i32 a7], .slice A n c] w fun e w' => e = .returned (.int .i64 (cntL xs f)) ∧ Below w.heap.size w w' := by
  have hn := R.2.1
  have HXL := Lib.hid R.1
  obtain ⟨W1, hW1⟩ : ∃ x, x = w.alloc (.cells #[.int .i8 f, .int .i32 a0, .int .i32 a1, .int .i32 a2, .int .i32 a3, .int .i32 a4, .int .i32 a5, .int .i32 a6, .int .i32 a7] 58) := ⟨_, rfl⟩
  have X0 : Row W1 w.heap.size 58 [.int .i8 f, .int .i32 a0, .int .i32 a1, .int .i32 a2, .int .i32 a3, .int .i32 a4, .int .i32 a5, .int .i32 a6, .int .i32 a7] := by rw [hW1]; exact Row.alloc w [.int .i8 f, .int .i32 a0, .int .i32 a1, .int .i32 a2, .int .i32 a3, .int .i32 a4, .int .i32 a5, .int .i32 a6, .int .i32 a7] 58
  have hb1 : Below w.heap.size w W1 := by rw [hW1]; exact below_alloc1 w _
  have R1 := R.below hb1
  have cf : W1.cell? ⟨w.heap.size, 0, none⟩ = some (.int .i8 f) := X0.cell 0
  clear X0 R
  go_enter Tryz.func57, Tryz.ntmps57
  go_wp2_with fail
  rw [← hW1]
  clear hW1
  go_loop [5, 10] (fun s v => ∃ k : Nat, k ≤ n ∧ v = .int .i64 k ∧ s = .int .i64 (cntTo xs f k)) (fun _ v => n - (intOf v).toNat)
  case atStart => exact ⟨0, by omega, rfl, rfl⟩
  case round =>
    obtain ⟨k, hk, rfl, rfl⟩ := hrel
    have hb := cntTo_bd xs f k
    by_cases hlt : k < n
    · obtain ⟨ad, x, rfl, hx, e0⟩ := R1.at1 hlt
      have HX := Lib.hid hx; clear hx
      by_cases hle : x ≤ f
      · have e1 := Lib.hid (cnt_yes HX.out hle)
        go_wp2_with fail
        go_round
        case rel => exact ⟨k + 1, by omega, by go_num, by rw [e1.out]⟩
        case measure => simp [intOf]; omega
      · have e1 := Lib.hid (cnt_no HX.out hle)
        go_wp2_with fail
        go_round
        case rel => exact ⟨k + 1, by omega, by go_num, by rw [e1.out]⟩
        case measure => simp [intOf]; omega
    · obtain rfl : k = n := by omega
      go_wp2_with fail
      go_ret
      exact ⟨by unfold cntL; rw [HXL.out]; rfl, hb1⟩
end Go.Proofs.YtbkhlcbnnjgdpaaGreatDoor
namespace Go.Proofs.YtbkhlcbnnjgdpaaGreatDoor
open Go.RowKit
set_option linter.unusedVariables false
set_option linter.unusedSimpArgs false
def FlOk (xs : List (Int × List Int)) : Prop := ∀ x ∈ xs, (Lit.int .i8 x.1).wf = true ∧ x.2.length = 8 ∧ ∀ y ∈ x.2, (Lit.int .i32 y).wf = true
theorem FlOk.len {xs : List (Int × List Int)} (h : FlOk xs) : ∀ x ∈ xs, x.2.length = 8 := fun x hx => (h x hx).2.1
theorem i8_rng {x : Int} (h : (Lit.int .i8 x).wf = true) : -128 ≤ x ∧ x ≤ 127 := by simp [Lit.wf, IntKind.min, IntKind.max, IntKind.signed, IntKind.bits] at h; omega
def flB (xs : List (Int × List Int)) : Bool := xs.all fun x => fleeceOk x.1 x.2
def flC (xs : List (Int × List Int)) (fine : Bool) : Int := if flB xs then (if fine then (if xs.length ≤ 6 then 0 else 3) else 2) else 1
theorem flB_no {xs : List (Int × List Int)} {x : Int × List Int} {j : Nat} (hx : xs[j]? = some x) (h : fleeceOk x.1 x.2 = false) : flB xs = false := by
  unfold flB
  rw [List.all_eq_false]
  exact ⟨x, List.mem_of_getElem? hx, by simp [h]⟩
theorem flB_yes {xs : List (Int × List Int)} (h : NotYet (fun x => !fleeceOk x.1 x.2) xs xs.length) : flB xs = true := by
  unfold flB
  rw [List.all_eq_true]
  intro x hx
  obtain ⟨j, hj, rfl⟩ := List.getElem_of_mem hx
  have := h j _ hj (List.getElem?_eq_getElem hj)
  simpa using this
theorem sl01Fleece_at (p : Addr) (f : Int) (L : List Int) (w : World) (hf : -128 ≤ f ∧ f ≤ 127) (hl : L.length = 8) (hw : Hid (∀ x ∈ L, (Lit.int .i32 x).wf = true)) (c0 : w.cell? p = some (.int .i8 f))
    (rr : Hid (∀ k x, L[k]? = some x → w.cell? ⟨p.block, p.off + 1 + k, none⟩ = some (.int .i32 x))) :
    Calls Tryz.prog 82 #[.pointer (some p)] w fun e w' => e = .returned (.bool (fleeceOk f L)) ∧ w = w' := by
  cases h : inB f 0 9
  all_goals
    go_enter Tryz.func82, Tryz.ntmps82
    go_wp2_with (first
      | (go_at_call 41; (refine (l00In_any _ _ _ _).mono ?_); rintro e w' ⟨rfl, rfl⟩)
      | (go_at_call 38; (refine (l01Heap_at p.block (p.off + 1) L _ rr hl hw).mono ?_); rintro e w1 ⟨rfl, rfl⟩))
    go_ret
    exact ⟨by simp [fleeceOk, h], rfl⟩
set_option maxHeartbeats 1000000 in
theorem l01Fleeces_any (A : Option Addr) (n c : Nat) (xs : List (Int × List Int)) (fine : Bool) (w : World) (R : Rds w A n 9 FlC xs) (hF : Hid (FlOk xs)) :
    Calls Tryz.prog 58 #[.slice A n c, .bool fine] w fun e w' => e = .returned (.int .i64 (flC xs fine)) ∧ w = w' := by
  have hn := R.2.1
  have HXL := Lib.hid R.1
  go_enter Tryz.func58, Tryz.ntmps58
  go_wp2_with fail
  go_loop [5] (fun v => ∃ k : Nat, k ≤ n ∧ v = .int .i64 k ∧ Hid (NotYet (fun x => !fleeceOk x.1 x.2) xs k)) (fun v => n - (intOf v).toNat)
  case atStart => exact ⟨0, by omega, rfl, Lib.hid (NotYet.zero _ _)⟩
  case round =>
    obtain ⟨j, hj, rfl, H⟩ := hrel
    by_cases hlt : j < n
    · obtain ⟨ad, x, rfl, hx, hm, hc0, hc⟩ := R.cells hlt
      obtain ⟨g1, g2, g3⟩ := hF.out x hm
      have gf := i8_rng g1
      have G3 := Lib.hid g3; have HX := Lib.hid hx
      have c0 := hc0 _ rfl
      have rr : Hid (∀ k y, x.2[k]? = some y → w.cell? ⟨(ad.add (j * 9)).block, (ad.add (j * 9)).off + 1 + k, none⟩ = some (.int .i32 y)) := Lib.hid fun k y hy => by
        have := hc k (.int .i32 y) (by show (nums .i32 x.2)[k]? = _; rw [nums_get, hy]; rfl)
        rw [show (ad.add (j * 9)).off + 1 + k = (ad.add (j * 9)).off + (k + 1) by omega]
        exact this
      have C0 := Lib.hid c0
      clear hx hm hc0 hc g1 g3 c0
      cases hok : fleeceOk x.1 x.2
      · have e1 := Lib.hid (flB_no HX.out hok)
        go_wp2_with (go_at_call 82; (refine (sl01Fleece_at (ad.add (j * 9)) x.1 x.2 _ gf g2 G3 C0.out rr).mono ?_); rintro e w' ⟨rfl, rfl⟩; rw [hok])
        go_ret
        exact ⟨by rw [flC, e1.out]; rfl, rfl⟩
      · go_wp2_with (go_at_call 82; (refine (sl01Fleece_at (ad.add (j * 9)) x.1 x.2 _ gf g2 G3 C0.out rr).mono ?_); rintro e w' ⟨rfl, rfl⟩; rw [hok])
        go_round
        case rel => exact ⟨j + 1, by omega, by go_num, Lib.hid (H.out.step HX.out (by simp [hok]))⟩
        case measure => simp [intOf]; omega
    · obtain rfl : j = n := by omega
      have e1 := Lib.hid (flB_yes (by rw [HXL.out]; exact H.out))
      cases fine
      · go_wp2_with fail
        go_ret
        exact ⟨by rw [flC, e1.out]; rfl, rfl⟩
      · by_cases h6 : j ≤ 6
        · have h6i : ¬ (6 : Int) < (j : Int) := by omega
          go_wp2_with fail
          go_ret
          exact ⟨by rw [flC, e1.out, HXL.out, if_pos rfl, if_pos rfl, if_pos h6]; rfl, rfl⟩
        · have h6i : (6 : Int) < (j : Int) := by omega
          go_wp2_with fail
          go_ret
          exact ⟨by rw [flC, e1.out, HXL.out, if_pos rfl, if_pos rfl, if_neg h6]; rfl, rfl⟩
theorem gradesCode_any (A B : Option Addr) (n c m d : Nat) (xs : List (Int × List Int)) (bs : List Int) (w : World) (R : Rds w A n 9 FlC xs) (hF : Hid (FlOk xs)) (R2 : Rds w B m 1 (fun x : Int => [.int .i64 x]) bs) :
    Calls Tryz.prog 56 #[.slice A n c, .slice B m d] w fun e w' => e = .returned (.int .i64 (flC xs (risOk bs))) ∧ Below w.heap.size w w' := by
  have hn := R.2.1
  have HXL := Lib.hid R.1
  have hall := areAll_F (p := fun x => fleeceOk x.1 x.2) (xs := xs) (k := 71) (enters_of Tryz.func71 rfl (by decide)) (Lib.hid fun f a0 a1 a2 a3 a4 a5 a6 a7 w' hm => iValidFleece f a0 a1 a2 a3 a4 a5 a6 a7 w' (i8_rng (hF.out _ hm).1) (Lib.hid (hF.out _ hm).2.2)) (Lib.hid hF.out.len) A n c w R
  have HALL := Lib.hid hall; clear hall
  cases h1 : flB xs
  · go_enter Tryz.func56, Tryz.ntmps56
    go_wp2_with fail
    refine HALL.out.mono ?_
    rintro e w1 ⟨rfl, hb⟩
    rw [show (xs.all fun x => fleeceOk x.1 x.2) = false from h1]
    go_wp2_with fail
    go_ret
    exact ⟨by rw [flC, h1]; rfl, hb⟩
  · cases h2 : risOk bs
    · go_enter Tryz.func56, Tryz.ntmps56
      go_wp2_with fail
      refine HALL.out.mono ?_
      rintro e w1 ⟨rfl, hb⟩
      rw [show (xs.all fun x => fleeceOk x.1 x.2) = true from h1]
      go_wp2_with fail
      refine (areIncreasing_any B m d bs _ (R2.below hb)).mono ?_
      rintro e w2 ⟨rfl, rfl⟩
      rw [h2]
      go_wp2_with fail
      go_ret
      exact ⟨by rw [flC, h1]; rfl, hb⟩
    · by_cases h6 : n ≤ 6
      all_goals
        go_enter Tryz.func56, Tryz.ntmps56
        go_wp2_with fail
        refine HALL.out.mono ?_
        rintro e w1 ⟨rfl, hb⟩
        rw [show (xs.all fun x => fleeceOk x.1 x.2) = true from h1]
        go_wp2_with fail
        refine (areIncreasing_any B m d bs _ (R2.below hb)).mono ?_
        rintro e w2 ⟨rfl, rfl⟩
        rw [h2]
        go_wp2_with fail
        go_ret
      · exact ⟨by rw [flC, h1, HXL.out, if_pos rfl, if_pos rfl, if_pos h6]; rfl, hb⟩
      · exact ⟨by rw [flC, h1, HXL.out, if_pos rfl, if_pos rfl, if_neg h6]; rfl, hb⟩
end Go.Proofs.YtbkhlcbnnjgdpaaGreatDoor
namespace Go.Proofs.YtbkhlcbnnjgdpaaGreatDoor
open Go.RowKit
set_option linter.unusedVariables false
set_option linter.unusedSimpArgs false
def gfC (xs : List (Int × List Int)) (bs : List Int) : Int := flC xs (risOk bs)
def gfTo (xs : List (Int × List Int)) (bs : List Int) (k : Nat) : List Int := (xs.take k).map fun x => cntL bs x.1
def gfR (xs : List (Int × List Int)) (bs : List Int) : List Int := if gfC xs bs = 0 then gfTo xs bs xs.length else []
theorem gfTo_succ {xs : List (Int × List Int)} {bs : List Int} {k : Nat} {x : Int × List Int} (h : xs[k]? = some x) : gfTo xs bs (k + 1) = gfTo xs bs k ++ [cntL bs x.1] := by
  unfold gfTo
  rw [List.take_add_one, h]
  simp
theorem gfTo_len {xs : List (Int × List Int)} {bs : List Int} {k : Nat} (h : k ≤ xs.length) : (gfTo xs bs k).length = k := by
  unfold gfTo
  rw [List.length_map, List.length_take]
  omega
theorem flC_0 {xs : List (Int × List Int)} {b : Bool} (h : flC xs b = 0) : flB xs = true ∧ b = true ∧ xs.length ≤ 6 := by
  unfold flC at h
  cases h1 : flB xs
  · simp [h1] at h
  · cases b
    · simp [h1] at h
    · by_cases h6 : xs.length ≤ 6
      · exact ⟨rfl, rfl, h6⟩
      · simp [h1, h6] at h
theorem gfR_len (xs : List (Int × List Int)) (bs : List Int) : (gfR xs bs).length ≤ 6 := by
  unfold gfR
  split
  · rename_i h
    rw [gfTo_len (Nat.le_refl _)]
    exact (flC_0 h).2.2
  · simp
set_option maxHeartbeats 1000000 in
theorem sGradesOf (A : Option Addr) (n c : Nat) (xs : List (Int × List Int)) (B : Option Addr) (m d : Nat) (bs : List Int) (w : World) (R : Rds w A n 9 FlC xs) (hF : Hid (FlOk xs)) (R2 : Rds w B m 1 (fun x : Int => [.int .i64 x]) bs) :
    Calls Tryz.prog 29 #[.slice A n c, .slice B m d] w (RetOwnT 2 1 (gfR xs bs).length (nums .i64 (gfR xs bs)) [.int .i64 (gfC xs bs)] w) := by
  have hn := R.2.1
  have HXL := Lib.hid R.1
  have HB0 := below_alloc1 w (.cells #[] 2)
  have O0 := own_empty w 2 1
  have hbd := (l01Bounds_any B m d bs _ (R2.below HB0))
  obtain ⟨C, hC⟩ : ∃ C, gfC xs bs = C := ⟨_, rfl⟩
  have HC := Lib.hid hC
  have HBD := Lib.hid hbd
  clear hbd
  by_cases h0 : C = 0
  rotate_left
  · have hr : gfR xs bs = [] := by unfold gfR; rw [hC, if_neg h0]
    rw [hr, hC]
    have h0i : ¬ (C : Int) = 0 := h0
    clear hC hr
    go_enter Tryz.func29, Tryz.ntmps29
    go_wp2_with fail
    refine HBD.out.mono ?_
    rintro e w1 ⟨rfl, hb⟩
    replace O0 := own_below O0 hb
    have HB1 := below_then HB0 HB0.size hb
    go_wp2_with fail
    refine (l01Fleeces_any A n c xs _ _ (R.below HB1) hF).mono ?_
    rintro e w2 ⟨rfl, rfl⟩
    rw [show flC xs (risOk bs) = C from HC.out]
    go_wp2_with fail
    go_ret2
    exact ⟨_, _, rfl, O0, HB1⟩
  subst h0
  obtain ⟨hfl, hri, h6⟩ := flC_0 hC
  rw [HXL.out] at h6
  have e2 : gfR xs bs = gfTo xs bs n := by unfold gfR; rw [hC, if_pos rfl, HXL.out]
  rw [e2, gfTo_len (by rw [HXL.out]; exact Nat.le_refl _), hC]
  clear hC e2 hfl hri
  go_enter Tryz.func29, Tryz.ntmps29
  go_wp2_with fail
  refine HBD.out.mono ?_
  rintro e w1 ⟨rfl, hb⟩
  replace O0 := own_below O0 hb
  have HB1 := below_then HB0 HB0.size hb
  go_wp2_with fail
  refine (l01Fleeces_any A n c xs _ _ (R.below HB1) hF).mono ?_
  rintro e w2 ⟨rfl, rfl⟩
  rw [show flC xs (risOk bs) = 0 from HC.out]
  clear HB0 hb
  go_wp2_with fail
  have hbw := HB1.size
  go_loopw [6, 8] (fun s v wr => ∃ (k : Nat) (A' : Option Addr) (c' : Nat), k ≤ n ∧ v = .int .i64 k ∧ s = .slice A' k c' ∧ wr.ownsRow w.heap.size 2 1 (.slice A' k c') k (nums .i64 (gfTo xs bs k)) ∧ Below w.heap.size w wr) (fun _ v _ => n - (intOf v).toNat)
  case atStart => exact ⟨0, _, _, by omega, rfl, rfl, by simpa [gfTo, nums] using O0, HB1⟩
  case round =>
    obtain ⟨k, A', c', hk, rfl, rfl, O, hB⟩ := hrel
    clear O0 HB1 hbw
    by_cases hlt : k < n
    · obtain ⟨ad, f, a0, a1, a2, a3, a4, a5, a6, a7, rfl, hx, e0, _⟩ := (R.below hB).fleece hF.out.len hlt
      have HX := Lib.hid hx
      have hm := List.mem_of_getElem? hx
      have gf := i8_rng (hF.out _ hm).1
      clear hx hm
      have hB2 := hB.size
      go_wp2_with fail
      refine (l01Grade_any B m d bs f _ (R2.below hB)).mono ?_
      rintro e w3 ⟨rfl, rfl⟩
      go_wp2_with ((at_builtin; refine app_any (w0 := w) w.heap.size (by rfl) _ _ 51 2 (.int .i64 0) 1 8 (by rfl) Tryz.underlying51 info_i64 rfl (by omega) (by omega) _ (by rfl) 1 1 [.int .i64 (cntL bs f)] (by rfl) (by rfl) (by simp [Value.oneCell']) O hB hB2 (by omega) ?_; intro A2 c2 w4 O2 HBn hg2))
      rw [← nums_snoc, ← show gfTo xs bs (k + 1) = gfTo xs bs k ++ [cntL bs f] from gfTo_succ HX.out] at O2
      go_wp2_with fail
      go_roundw
      case rel => exact ⟨k + 1, A2, c2, by omega, by go_num, rfl, O2, HBn⟩
      case measure => simp [intOf]; omega
    · obtain rfl : k = n := by omega
      go_wp2_with fail
      go_ret2
      exact ⟨A', c', rfl, O, hB⟩
set_option maxHeartbeats 1000000 in
theorem iGradesOf (A : Option Addr) (n c : Nat) (xs : List (Int × List Int)) (B : Option Addr) (m d : Nat) (bs : List Int) (w : World) (R : Rds w A n 9 FlC xs) (hF : Hid (FlOk xs)) (R2 : Rds w B m 1 (fun x : Int => [.int .i64 x]) bs) :
    Calls Tryz.prog 28 #[.slice A n c, .slice B m d] w (RetOwnT 2 1 (gfR xs bs).length (nums .i64 (gfR xs bs)) [.int .i64 (gfC xs bs)] w) := by
  have hn := R.2.1
  have HXL := Lib.hid R.1
  obtain ⟨C, hC⟩ : ∃ C, gfC xs bs = C := ⟨_, rfl⟩
  have HC := Lib.hid hC
  by_cases h0 : C = 0
  rotate_left
  · have hr : gfR xs bs = [] := by unfold gfR; rw [hC, if_neg h0]
    rw [hr, hC]
    have h0i : ¬ (C : Int) = 0 := h0
    clear hC hr
    go_enter Tryz.func28, Tryz.ntmps28
    go_wp2_with fail
    refine (gradesCode_any A B n c m d xs bs _ R hF R2).mono ?_
    rintro e w1 ⟨rfl, hb⟩
    rw [show flC xs (risOk bs) = C from HC.out]
    go_wp2_with fail
    go_ret2
    exact ⟨none, 0, rfl, own_nil _ _ _ _, hb⟩
  subst h0
  obtain ⟨hfl, hri, h6⟩ := flC_0 hC
  rw [HXL.out] at h6
  have e2 : gfR xs bs = gfTo xs bs n := by unfold gfR; rw [hC, if_pos rfl, HXL.out]
  rw [e2, gfTo_len (by rw [HXL.out]; exact Nat.le_refl _), hC]
  clear hC e2 hfl hri
  go_enter Tryz.func28, Tryz.ntmps28
  go_wp2_with fail
  refine (gradesCode_any A B n c m d xs bs _ R hF R2).mono ?_
  rintro e w1 ⟨rfl, hb⟩
  rw [show flC xs (risOk bs) = 0 from HC.out]
  go_wp2_with fail
  go_loopw [7, 18] (fun s v wr => ∃ (k : Nat) (A' : Option Addr) (c' : Nat), k ≤ n ∧ v = .int .i64 k ∧ s = .slice A' k c' ∧ wr.ownsRow w.heap.size 2 1 (.slice A' k c') k (nums .i64 (gfTo xs bs k)) ∧ Below w.heap.size w wr) (fun _ v _ => n - (intOf v).toNat)
  case atStart => exact ⟨0, _, _, by omega, rfl, rfl, by simpa [gfTo, nums] using own_nil w1 w.heap.size 2 1, hb⟩
  case round =>
    obtain ⟨k, A', c', hk, rfl, rfl, O, hB⟩ := hrel
    clear hb
    by_cases hlt : k < n
    · obtain ⟨ad, f, a0, a1, a2, a3, a4, a5, a6, a7, rfl, hx, e0, e1, e2, e3, e4, e5, e6, e7, e8⟩ := (R.below hB).fleece hF.out.len hlt
      have HX := Lib.hid hx
      have hm := List.mem_of_getElem? hx
      have gf := i8_rng (hF.out _ hm).1
      clear hx hm
      have hB2 := hB.size
      have hB1 := below_alloc1 wr (.cells #[.int .i8 f, .int .i32 a0, .int .i32 a1, .int .i32 a2, .int .i32 a3, .int .i32 a4, .int .i32 a5, .int .i32 a6, .int .i32 a7] 58)
      go_wp2_with fail
      refine (grade_any B m d bs f a0 a1 a2 a3 a4 a5 a6 a7 _ ((R2.below hB).below hB1) gf).mono ?_
      rintro e w3 ⟨rfl, hb3⟩
      replace O := own_below (own_below O hB1) hb3
      have hB3 := below_then (below_then hB hB2 hB1) (Nat.le_trans hB2 hB1.size) hb3
      have hB4 := hB3.size
      clear hB1 hb3 e0 e1 e2 e3 e4 e5 e6 e7 e8
      go_wp2_with ((at_builtin; refine app_any (w0 := w) w.heap.size (by rfl) _ _ 51 2 (.int .i64 0) 1 8 (by rfl) Tryz.underlying51 info_i64 rfl (by omega) (by omega) _ (by rfl) 1 1 [.int .i64 (cntL bs f)] (by rfl) (by rfl) (by simp [Value.oneCell']) O hB3 hB4 (by omega) ?_; intro A2 c2 w4 O2 HBn hg2))
      rw [← nums_snoc, ← show gfTo xs bs (k + 1) = gfTo xs bs k ++ [cntL bs f] from gfTo_succ HX.out] at O2
      go_wp2_with fail
      go_roundw
      case rel => exact ⟨k + 1, A2, c2, by omega, by go_num, rfl, O2, HBn⟩
      case measure => simp [intOf]; omega
    · obtain rfl : k = n := by omega
      go_wp2_with fail
      go_ret2
      exact ⟨A', c', rfl, O, hB⟩
end Go.Proofs.YtbkhlcbnnjgdpaaGreatDoor
namespace Go.Proofs.YtbkhlcbnnjgdpaaGreatDoor
open Go.RowKit
set_option linter.unusedVariables false
set_option linter.unusedSimpArgs false
abbrev HE (h : List Int) : List Value := [.int .i32 (h.getD 0 0), .int .i32 (h.getD 1 0), .int .i32 (h.getD 2 0), .int .i32 (h.getD 3 0), .int .i32 (h.getD 4 0), .int .i32 (h.getD 5 0), .int .i32 (h.getD 6 0), .int .i32 (h.getD 7 0)]
theorem HE_len (xs : List (List Int)) : (xs.flatMap HE).length = xs.length * 8 := by
  induction xs with
  | nil => rfl
  | cons x xs ih => simp only [List.flatMap_cons, List.length_append, ih, List.length_cons, List.length_nil]; omega
theorem Rds.heap {w : World} {A : Option Addr} {n : Nat} {xs : List (List Int)} (R : Rds w A n 8 HE xs) {k : Nat} (hk : k < n) :
    ∃ ad x, A = some ad ∧ xs[k]? = some x ∧ w.cell? (ad.add (k * 8)) = some (.int .i32 (x.getD 0 0)) ∧ w.cell? ⟨(ad.add (k * 8)).block, (ad.add (k * 8)).off + 1, none⟩ = some (.int .i32 (x.getD 1 0)) ∧ w.cell? ⟨(ad.add (k * 8)).block, (ad.add (k * 8)).off + 2, none⟩ = some (.int .i32 (x.getD 2 0)) ∧ w.cell? ⟨(ad.add (k * 8)).block, (ad.add (k * 8)).off + 3, none⟩ = some (.int .i32 (x.getD 3 0)) ∧ w.cell? ⟨(ad.add (k * 8)).block, (ad.add (k * 8)).off + 4, none⟩ = some (.int .i32 (x.getD 4 0)) ∧ w.cell? ⟨(ad.add (k * 8)).block, (ad.add (k * 8)).off + 5, none⟩ = some (.int .i32 (x.getD 5 0)) ∧ w.cell? ⟨(ad.add (k * 8)).block, (ad.add (k * 8)).off + 6, none⟩ = some (.int .i32 (x.getD 6 0)) ∧ w.cell? ⟨(ad.add (k * 8)).block, (ad.add (k * 8)).off + 7, none⟩ = some (.int .i32 (x.getD 7 0)) := by
  obtain ⟨ad, h1, h2⟩ := R.2.2 (by omega)
  have hx : xs[k]? = some (xs[k]'(by rw [R.1]; exact hk)) := List.getElem?_eq_getElem _
  refine ⟨ad, _, h1, hx, h2 k _ hx 0 _ rfl, ?_, ?_, ?_, ?_, ?_, ?_, ?_⟩
  · have h := h2 k _ hx 1 _ rfl; rw [← Addr.add_add] at h; exact h
  · have h := h2 k _ hx 2 _ rfl; rw [← Addr.add_add] at h; exact h
  · have h := h2 k _ hx 3 _ rfl; rw [← Addr.add_add] at h; exact h
  · have h := h2 k _ hx 4 _ rfl; rw [← Addr.add_add] at h; exact h
  · have h := h2 k _ hx 5 _ rfl; rw [← Addr.add_add] at h; exact h
  · have h := h2 k _ hx 6 _ rfl; rw [← Addr.add_add] at h; exact h
  · have h := h2 k _ hx 7 _ rfl; rw [← Addr.add_add] at h; exact h
/-- Number j of a heap in a list of such. -/
theorem Rds.heapAt {w : World} {A : Option Addr} {n : Nat} {xs : List (List Int)} (R : Rds w A n 8 HE xs) {k j : Nat} (hk : k < n) (hj : j < 8) :
    ∃ ad x, A = some ad ∧ xs[k]? = some x ∧ w.cell? ((ad.add (k * 8)).add j) = some (.int .i32 (x.getD j 0)) := by
  obtain ⟨ad, h1, h2⟩ := R.2.2 (by omega)
  have hx : xs[k]? = some (xs[k]'(by rw [R.1]; exact hk)) := List.getElem?_eq_getElem _
  refine ⟨ad, _, h1, hx, ?_⟩
  have h8 : j = 0 ∨ j = 1 ∨ j = 2 ∨ j = 3 ∨ j = 4 ∨ j = 5 ∨ j = 6 ∨ j = 7 := by omega
  have h := h2 k _ hx j (.int .i32 ((xs[k]'(by rw [R.1]; exact hk)).getD j 0)) (by rcases h8 with rfl | rfl | rfl | rfl | rfl | rfl | rfl | rfl <;> rfl)
  rw [← Addr.add_add] at h
  exact h
theorem own_rdsH {w : World} {base n c : Nat} {E : TypeId} {A : Option Addr} {xs : List (List Int)} (O : w.ownsRow base E 8 (.slice A n c) n (xs.flatMap HE)) (hn : n ≤ 1048576) : Rds w A n 8 HE xs :=
  own_rds O (fun x _ => rfl) (by omega) (by omega)
def mk32 (k0 : Int) (j : Nat) : List Int := (List.range j).map fun i : Nat => k0 + (i : Int)
theorem mk32_succ (k0 : Int) (j : Nat) : mk32 k0 (j + 1) = mk32 k0 j ++ [k0 + j] := by simp [mk32, List.range_succ]
theorem mk32_length (k0 : Int) (j : Nat) : (mk32 k0 j).length = j := by simp [mk32]
theorem mk32_get {k0 : Int} {n j : Nat} (h : j < n) : (mk32 k0 n)[j]? = some (k0 + j) := by simp [mk32, h]
def hmark (k0 : Int) (j : Nat) : List Int := mk32 (k0 + 8 * (j : Int)) 8
def hmarks (k0 : Int) : Nat → List (List Int)
  | 0 => []
  | j + 1 => hmarks k0 j ++ [hmark k0 j]
theorem hmarks_len (k0 : Int) : ∀ j, (hmarks k0 j).length = j
  | 0 => rfl
  | j + 1 => by simp [hmarks, hmarks_len k0 j]
theorem hmarks_get (k0 : Int) {n j : Nat} (h : j < n) : (hmarks k0 n)[j]? = some (hmark k0 j) := by
  induction n with
  | zero => omega
  | succ n ih =>
    simp only [hmarks]
    by_cases hj : j < n
    · rw [List.getElem?_append_left (by rw [hmarks_len]; exact hj)]; exact ih hj
    · obtain rfl : j = n := by omega
      rw [List.getElem?_append_right (by rw [hmarks_len]; exact Nat.le_refl _), hmarks_len, Nat.sub_self]
      rfl
theorem hmark_at (k0 : Int) (i : Nat) {j : Nat} (h : j < 8) : (hmark k0 i).getD j 0 = k0 + 8 * (i : Int) + (j : Int) := by
  unfold hmark
  rw [List.getD_eq_getElem?_getD, mk32_get h]
  rfl
theorem hmarks_flat (k0 : Int) : ∀ n, (hmarks k0 n).flatMap HE = nums .i32 (mk32 k0 (n * 8))
  | 0 => rfl
  | n + 1 => by
    simp only [hmarks, List.flatMap_append, List.flatMap_cons, List.flatMap_nil, List.append_nil]
    rw [hmarks_flat k0 n, show (n + 1) * 8 = n * 8 + 1 + 1 + 1 + 1 + 1 + 1 + 1 + 1 by omega]
    simp only [mk32_succ, HE]
    rw [hmark_at _ _ (by omega), hmark_at _ _ (by omega), hmark_at _ _ (by omega), hmark_at _ _ (by omega), hmark_at _ _ (by omega), hmark_at _ _ (by omega), hmark_at _ _ (by omega), hmark_at _ _ (by omega)]
    simp only [nums, List.map_append, List.map_cons, List.map_nil, List.append_assoc, List.cons_append, List.nil_append]
    congr 1
    simp only [List.cons.injEq, Value.int.injEq, true_and, and_true]
    omega
theorem grown_set8 {w wr : World} {g : Nat} (h : w.grownBy wr (some g)) (i : Nat) (v : Value) : w.grownBy (wr.setCell ⟨g, i, none⟩ v) (some g) :=
  ⟨h.os, h.tape, h.output, by simpa [World.setCell] using h.size, fun k hk hne => by
    rw [heap_setCell_other _ _ _ _ (by intro e; exact hne (by rw [e]))]; exact h.block k hk hne⟩
theorem marked_set32 {k0 : Int} {j : Nat} {cs : List Value} (h : j < cs.length) : (nums .i32 (mk32 k0 j) ++ cs.drop j).set j (.int .i32 (k0 + j)) = nums .i32 (mk32 k0 (j + 1)) ++ cs.drop (j + 1) := by
  rw [List.drop_eq_getElem_cons h, set_app _ _ _ _ _ (by rw [nums_length, mk32_length]), mk32_succ]
  simp [nums]
end Go.Proofs.YtbkhlcbnnjgdpaaGreatDoor
namespace Go.Proofs.YtbkhlcbnnjgdpaaGreatDoor
open Go.RowKit
set_option linter.unusedVariables false
set_option linter.unusedSimpArgs false
/-! Numbers by a rule. -/
def gen (n : Nat) (f : Nat → Int) : List Int := (List.range n).map f
theorem gen_len (n : Nat) (f : Nat → Int) : (gen n f).length = n := by simp [gen]
theorem gen_at {n : Nat} (f : Nat → Int) {k : Nat} (h : k < n) : (nums .i32 (gen n f))[k]? = some (.int .i32 (f k)) := by simp [nums, gen, h]
theorem gen_set {n : Nat} {f g : Nat → Int} {k : Nat} {v : Int} (h : k < n) (hv : g k = v) (hg : ∀ j, j < n → j ≠ k → g j = f j) : (nums .i32 (gen n f)).set k (.int .i32 v) = nums .i32 (gen n g) := by
  apply List.ext_getElem?
  intro i
  rw [List.getElem?_set]
  by_cases hk : k = i
  · subst hk
    simp [nums, gen, h, hv]
  · rw [if_neg hk]
    by_cases hi : i < n
    · simp [nums, gen, hi, hg i hi (fun e => hk e.symm)]
    · simp [nums, gen, hi]
theorem gen_congr {n : Nat} {f g : Nat → Int} (h : ∀ j, j < n → f j = g j) : gen n f = gen n g := by
  unfold gen
  apply List.map_congr_left
  intro j hj
  exact h j (List.mem_range.1 hj)
theorem gen_zero (n : Nat) : nums .i32 (gen n fun _ => 0) = List.replicate n (.int .i32 0) := by
  apply List.ext_getElem?
  intro i
  by_cases hi : i < n <;> simp [nums, gen, hi]
theorem gen_snoc8 (n : Nat) (f : Nat → Int) : gen ((n + 1) * 8) f = gen (n * 8) f ++ [f (n * 8), f (n * 8 + 1), f (n * 8 + 2), f (n * 8 + 3), f (n * 8 + 4), f (n * 8 + 5), f (n * 8 + 6), f (n * 8 + 7)] := by
  rw [show (n + 1) * 8 = n * 8 + 1 + 1 + 1 + 1 + 1 + 1 + 1 + 1 by omega]
  simp only [gen, List.range_succ, List.map_append, List.map_cons, List.map_nil, List.append_assoc, List.cons_append, List.nil_append]
theorem madeCells_heap (m : Nat) : madeCells (Value.cells (.agg #[.int .i32 0, .int .i32 0, .int .i32 0, .int .i32 0, .int .i32 0, .int .i32 0, .int .i32 0, .int .i32 0])) (m * 8) = (List.replicate (m * 8) (.int .i32 0)).toArray := by
  apply Array.ext
  · simp [madeCells]
  · intro i h1 h2
    have h3 : i % 8 = 0 ∨ i % 8 = 1 ∨ i % 8 = 2 ∨ i % 8 = 3 ∨ i % 8 = 4 ∨ i % 8 = 5 ∨ i % 8 = 6 ∨ i % 8 = 7 := by omega
    rcases h3 with h3 | h3 | h3 | h3 | h3 | h3 | h3 | h3 <;> simp [madeCells, Value.cells, h3]
/-- What number x of the list gives to cell j of grade g. -/
def ghA (xs : List (Int × List Int)) (bs : List Int) (g j i : Nat) : Int := match xs[i]? with
  | some x => if cntL bs x.1 = (g : Int) then x.2.getD j 0 else 0
  | none => 0
def ghS (xs : List (Int × List Int)) (bs : List Int) (g j : Nat) : Nat → Int
  | 0 => 0
  | i + 1 => ghS xs bs g j i + ghA xs bs g j i
def ghF (xs : List (Int × List Int)) (bs : List Int) (i p : Nat) : Int := ghS xs bs (p / 8) (p % 8) i
theorem ghA_at {xs : List (Int × List Int)} {bs : List Int} {i : Nat} {x : Int × List Int} (hx : xs[i]? = some x) (g j : Nat) : ghA xs bs g j i = if cntL bs x.1 = (g : Int) then x.2.getD j 0 else 0 := by
  unfold ghA
  rw [hx]
theorem fl_bd {xs : List (Int × List Int)} (h : flB xs = true) {i : Nat} {x : Int × List Int} (hx : xs[i]? = some x) (j : Nat) : 0 ≤ x.2.getD j 0 ∧ x.2.getD j 0 ≤ 1000 := by
  have h1 : ∀ x ∈ xs, fleeceOk x.1 x.2 = true := by simpa [flB] using h
  have h2 := h1 x (List.mem_of_getElem? hx)
  have h3 : ∀ y ∈ x.2, inB y 0 1000 = true := by
    have : heapOk x.2 = true := by
      unfold fleeceOk at h2
      cases hb : inB x.1 0 9 <;> simp_all
    simpa [heapOk] using this
  rw [List.getD_eq_getElem?_getD]
  by_cases hj : j < x.2.length
  · rw [List.getElem?_eq_getElem hj]
    have := h3 _ (List.getElem_mem hj)
    simpa [inB] using this
  · rw [List.getElem?_eq_none (by omega)]; simp
theorem ghS_bd {xs : List (Int × List Int)} (h : flB xs = true) (bs : List Int) (g j : Nat) : ∀ i, 0 ≤ ghS xs bs g j i ∧ ghS xs bs g j i ≤ 1000 * i
  | 0 => ⟨Int.le_refl _, by simp [ghS]⟩
  | i + 1 => by
    have ih := ghS_bd h bs g j i
    have ha : 0 ≤ ghA xs bs g j i ∧ ghA xs bs g j i ≤ 1000 := by
      unfold ghA
      split
      · rename_i x hx
        split
        · exact fl_bd h hx j
        · omega
      · omega
    unfold ghS
    omega
/-- The cells within a round: d cells of grade q have been raised. -/
def ghD (xs : List (Int × List Int)) (bs : List Int) (i q d p : Nat) : Int := if p / 8 = q ∧ p % 8 < d then ghF xs bs (i + 1) p else ghF xs bs i p
theorem ghD_zero (xs : List (Int × List Int)) (bs : List Int) (i q n : Nat) : gen n (ghD xs bs i q 0) = gen n (ghF xs bs i) := by
  apply gen_congr
  intro j _
  unfold ghD
  rw [if_neg (by omega)]
theorem ghD_end {xs : List (Int × List Int)} {bs : List Int} {i q n : Nat} {x : Int × List Int} (hx : xs[i]? = some x) (hq : cntL bs x.1 = (q : Int)) : gen n (ghD xs bs i q 8) = gen n (ghF xs bs (i + 1)) := by
  apply gen_congr
  intro j _
  unfold ghD
  split
  · rfl
  · rename_i h
    unfold ghF
    rw [ghS, ghA_at hx, if_neg (by rw [hq]; omega), Int.add_zero]
theorem ghD_at {xs : List (Int × List Int)} {bs : List Int} {i q d n : Nat} (hq : q < n) (hd : d < 8) : (nums .i32 (gen (n * 8) (ghD xs bs i q d)))[q * 8 + d]? = some (.int .i32 (ghS xs bs q d i)) := by
  rw [gen_at _ (by omega)]
  unfold ghD ghF
  rw [if_neg (by omega), show (q * 8 + d) / 8 = q by omega, show (q * 8 + d) % 8 = d by omega]
theorem ghF_at {xs : List (Int × List Int)} {bs : List Int} {i q d n : Nat} (hq : q < n) (hd : d < 8) : (nums .i32 (gen (n * 8) (ghF xs bs i)))[q * 8 + d]? = some (.int .i32 (ghS xs bs q d i)) := by
  rw [gen_at _ (by omega)]
  unfold ghF
  rw [show (q * 8 + d) / 8 = q by omega, show (q * 8 + d) % 8 = d by omega]
theorem ghD_set {xs : List (Int × List Int)} {bs : List Int} {i q d n : Nat} {x : Int × List Int} {v : Int} (hx : xs[i]? = some x) (hc : cntL bs x.1 = (q : Int)) (hq : q < n) (hd : d < 8) (hv : ghS xs bs q d i + x.2.getD d 0 = v) :
    (nums .i32 (gen (n * 8) (ghD xs bs i q d))).set (q * 8 + d) (.int .i32 v) = nums .i32 (gen (n * 8) (ghD xs bs i q (d + 1))) := by
  apply gen_set (by omega)
  · unfold ghD
    rw [if_pos (by omega)]
    unfold ghF
    rw [show (q * 8 + d) / 8 = q by omega, show (q * 8 + d) % 8 = d by omega, ghS, ghA_at hx, if_pos hc, hv]
  · intro j hj hne
    unfold ghD
    have h2 : (j / 8 = q ∧ j % 8 < d + 1) ↔ (j / 8 = q ∧ j % 8 < d) := by omega
    simp only [h2]
/-- The heap of grade g. -/
def ghH (xs : List (Int × List Int)) (bs : List Int) (i g : Nat) : List Int := [ghS xs bs g 0 i, ghS xs bs g 1 i, ghS xs bs g 2 i, ghS xs bs g 3 i, ghS xs bs g 4 i, ghS xs bs g 5 i, ghS xs bs g 6 i, ghS xs bs g 7 i]
def ghL (xs : List (Int × List Int)) (bs : List Int) (i n : Nat) : List (List Int) := (List.range n).map (ghH xs bs i)
theorem ghL_len (xs : List (Int × List Int)) (bs : List Int) (i n : Nat) : (ghL xs bs i n).length = n := by simp [ghL]
theorem ghL_at {xs : List (Int × List Int)} {bs : List Int} {i n g : Nat} (h : g < n) : (ghL xs bs i n)[g]? = some (ghH xs bs i g) := by simp [ghL, h]
theorem ghL_mem {xs : List (Int × List Int)} {bs : List Int} {i n : Nat} {L : List Int} (h : L ∈ ghL xs bs i n) : ∃ g, L = ghH xs bs i g := by
  unfold ghL at h
  obtain ⟨g, _, rfl⟩ := List.mem_map.1 h
  exact ⟨g, rfl⟩
theorem ghL_flat (xs : List (Int × List Int)) (bs : List Int) (i : Nat) : ∀ n, nums .i32 (gen (n * 8) (ghF xs bs i)) = (ghL xs bs i n).flatMap HE
  | 0 => rfl
  | n + 1 => by
    have h : ∀ d, d < 8 → ghF xs bs i (n * 8 + d) = ghS xs bs n d i := by
      intro d hd
      unfold ghF
      rw [show (n * 8 + d) / 8 = n by omega, show (n * 8 + d) % 8 = d by omega]
    rw [gen_snoc8, show n * 8 = n * 8 + 0 from rfl, h 0 (by omega), h 1 (by omega), h 2 (by omega), h 3 (by omega), h 4 (by omega), h 5 (by omega), h 6 (by omega), h 7 (by omega)]
    have ih := ghL_flat xs bs i n
    simp only [ghL, List.range_succ, List.map_append, List.map_cons, List.map_nil, List.flatMap_append, List.flatMap_cons, List.flatMap_nil, List.append_nil]
    rw [show List.flatMap HE (List.map (ghH xs bs i) (List.range n)) = nums .i32 (gen (n * 8) (ghF xs bs i)) from ih.symm]
    simp [nums, ghH]
theorem HE_HC {L : List Int} (h : L.length = 8) : HE L = HC L := by
  obtain ⟨a0, a1, a2, a3, a4, a5, a6, a7, rfl⟩ := heap8 h
  rfl
theorem flat_HC {ys : List (List Int)} (h : ∀ y ∈ ys, y.length = 8) : ys.flatMap HE = ys.flatMap HC := by
  induction ys with
  | nil => rfl
  | cons y ys ih => rw [List.flatMap_cons, List.flatMap_cons, HE_HC (h y (List.mem_cons_self ..)), ih (fun z hz => h z (List.mem_cons_of_mem _ hz))]
theorem ghL_8 {xs : List (Int × List Int)} {bs : List Int} {i n : Nat} : ∀ L ∈ ghL xs bs i n, L.length = 8 := by
  intro L h
  obtain ⟨g, rfl⟩ := ghL_mem h
  rfl
theorem ghL_wf {xs : List (Int × List Int)} {bs : List Int} {i n : Nat} (hf : flB xs = true) (hi : i ≤ 6) : ∀ L ∈ ghL xs bs i n, ∀ x ∈ L, (Lit.int .i32 x).wf = true := by
  intro L h x hx
  obtain ⟨g, rfl⟩ := ghL_mem h
  have hb : 0 ≤ x ∧ x ≤ 1000 * i := by
    simp only [ghH, List.mem_cons, List.not_mem_nil, or_false] at hx
    rcases hx with rfl | rfl | rfl | rfl | rfl | rfl | rfl | rfl <;> exact ghS_bd hf bs g _ i
  exact WalkArith.wf_i32 (by omega)
theorem ris_len {bs : List Int} (h : risOk bs = true) : bs.length ≤ 9 := by
  have h1 : ∀ j, j < bs.length → badAt bs j = false := by
    intro j hj
    have : ∀ j ∈ List.range bs.length, (!badAt bs j) = true := by simpa [risOk] using h
    simpa using this j (List.mem_range.2 hj)
  have h2 : ∀ j, j < bs.length → (j : Int) + 1 ≤ gd bs j ∧ gd bs j ≤ 9 := by
    intro j
    induction j with
    | zero =>
      intro hj
      have := h1 0 hj
      simp [badAt, inB] at this
      omega
    | succ j ih =>
      intro hj
      have h3 := ih (by omega)
      have := h1 (j + 1) hj
      simp [badAt, inB] at this
      omega
  by_cases hl : bs.length ≤ 9
  · exact hl
  · have := h2 9 (by omega)
    omega
def ghT (xs : List (Int × List Int)) (bs : List Int) : List (List Int) := ghL xs bs xs.length (bs.length + 1)
def ghOk (xs : List (Int × List Int)) (bs : List Int) : Bool := (ghT xs bs).all heapOk
def ghC (xs : List (Int × List Int)) (bs : List Int) : Int := if gfC xs bs = 0 then (if ghOk xs bs then 0 else 3) else gfC xs bs
def ghR (xs : List (Int × List Int)) (bs : List Int) : List (List Int) := if ghC xs bs = 0 then ghT xs bs else []
theorem ghC_0 {xs : List (Int × List Int)} {bs : List Int} (h : ghC xs bs = 0) : gfC xs bs = 0 := by
  unfold ghC at h
  split at h
  · assumption
  · exact h
theorem ghR_len (xs : List (Int × List Int)) (bs : List Int) : (ghR xs bs).length ≤ 10 := by
  unfold ghR
  split
  · rename_i h
    have := ris_len (flC_0 (ghC_0 h)).2.1
    unfold ghT
    rw [ghL_len]
    omega
  · simp
theorem gh_no {xs : List (Int × List Int)} {bs : List Int} {g : Nat} (hg : g < bs.length + 1) (h : heapOk (ghH xs bs xs.length g) = false) : ghOk xs bs = false := by
  unfold ghOk
  rw [List.all_eq_false]
  exact ⟨_, List.mem_of_getElem? (ghL_at hg), by simp [h]⟩
theorem gh_yes {xs : List (Int × List Int)} {bs : List Int} (h : ∀ g, g < bs.length + 1 → heapOk (ghH xs bs xs.length g) = true) : ghOk xs bs = true := by
  unfold ghOk
  rw [List.all_eq_true]
  intro L hL
  unfold ghT ghL at hL
  obtain ⟨g, hg, rfl⟩ := List.mem_map.1 hL
  exact h g (List.mem_range.1 hg)
end Go.Proofs.YtbkhlcbnnjgdpaaGreatDoor
