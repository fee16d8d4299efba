/- Contracts: a list of fleeces marked, and whether it holds the marks still. -/
import Derived.Test.YtjjdmabhmpkijaaDoorU1
import Derived.Test.YtjjdmabhmpkijaaDoorL1
namespace Go.Proofs.YtjjdmabhmpkijaaDoor
open Go.RowKit
set_option linter.unusedVariables false
set_option linter.unusedSimpArgs false
def gm (k : Int) (i : Nat) : List Int := (List.range i).map fun t : Nat => k + (t : Int)
theorem gm_len (k : Int) (i : Nat) : (gm k i).length = i := by simp [gm]
theorem gm_succ (k : Int) (i : Nat) : gm k (i + 1) = gm k i ++ [k + (i : Int)] := by simp [gm, List.range_succ]
theorem gm_at {k : Int} {i j : Nat} (h : j < i) : (gm k i)[j]? = some (k + (j : Int)) := by simp [gm, h]
def flmarks (k : Int) (n : Nat) : List (Int × List Int) := (List.range n).map fun j : Nat => (k + 9 * (j : Int), gm (k + 9 * (j : Int) + 1) 8)
theorem flmarks_length (k : Int) (n : Nat) : (flmarks k n).length = n := by simp [flmarks]
theorem flmarks_len (k : Int) (n : Nat) : ∀ x ∈ flmarks k n, x.2.length = 8 := by
  intro x hx
  obtain ⟨j, _, rfl⟩ := List.mem_map.1 hx
  exact gm_len _ _
theorem flmarks_succ (k : Int) (j : Nat) : (flmarks k (j + 1)).flatMap FlC = (flmarks k j).flatMap FlC ++ FlC (k + 9 * (j : Int), gm (k + 9 * (j : Int) + 1) 8) := by simp [flmarks, List.range_succ]
theorem flmarks_at {k : Int} {n j : Nat} (h : j < n) : (flmarks k n)[j]? = some (k + 9 * (j : Int), gm (k + 9 * (j : Int) + 1) 8) := by simp [flmarks, h]
theorem drop_cons {α : Type} {cs : List α} {q : Nat} (h : q < cs.length) : ∃ u, cs[q]? = some u ∧ cs.drop q = u :: cs.drop (q + 1) := ⟨cs[q], List.getElem?_eq_getElem h, List.drop_eq_getElem_cons h⟩
set_option maxHeartbeats 1000000 in
theorem markFleeceS9_any (b E : Nat) (A : Option Addr) (n c : Nat) (xs : List Value) (k0 : Int) (w : World) (O : w.ownsRow b E 9 (.slice A n c) n xs) (hn : n ≤ 6) (h0 : 0 ≤ k0) (h1 : k0 ≤ 40) :
    Calls Tryd.prog 12 #[.slice A n c, .int .i64 k0] w fun e w' => e = .returned (.int .i64 (k0 + 9 * (n : Int))) ∧ w'.ownsRow b E 9 (.slice A n c) n ((flmarks k0 n).flatMap FlC) ∧ w.grownBy w' (Value.ownBlock (.slice A n c)) := by
  have hx9 := O.1
  rcases Nat.eq_zero_or_pos n with rfl | hpos
  · have hxn : xs = [] := by simpa using hx9
    subst hxn
    have HO := Lib.hid O
    clear O hx9
    go_enter Tryd.func12, Tryd.ntmps12
    go_wp2_with fail
    go_loop [1, 5] (fun kk v => kk = .int .i64 k0 ∧ v = .int .i64 0) (fun _ _ => 0)
    case atStart => exact ⟨rfl, rfl⟩
    case round =>
      obtain ⟨rfl, rfl⟩ := hrel
      go_wp2_with fail
      go_ret
      exact ⟨by simp, HO.out, ⟨rfl, rfl, rfl, Nat.le_refl _, fun _ _ _ => rfl⟩⟩
  · obtain ⟨g, L, rfl, hbg, hrow, hnc, hcm, hlen⟩ := own_row O hpos (by omega)
    obtain ⟨cs, hcs⟩ : ∃ cs, xs ++ L = cs := ⟨_, rfl⟩
    rw [hcs] at hrow
    have hcl : cs.length = c * 9 := by rw [← hcs, List.length_append]; exact hlen
    have hdl : cs.drop (n * 9) = L := by rw [← hcs, ← hx9, List.drop_left]
    have HDL := Lib.hid hdl; have HCL := Lib.hid hcl; have HHL := Lib.hid hlen; have HX9 := Lib.hid hx9
    clear hcs hlen O hdl hcl hx9
    have H0 : Hid (Row w g E ((flmarks k0 0).flatMap FlC ++ cs.drop (0 * 9))) := Lib.hid (by simpa [flmarks] using hrow)
    clear hrow
    go_enter Tryd.func12, Tryd.ntmps12
    go_wp2_with fail
    go_loopw [1, 5] (fun kk v wr => ∃ k : Nat, k ≤ n ∧ v = .int .i64 k ∧ kk = .int .i64 (k0 + 9 * (k : Int)) ∧ Hid (Row wr g E ((flmarks k0 k).flatMap FlC ++ cs.drop (k * 9))) ∧ Hid (w.grownBy wr (some g))) (fun _ v _ => n - (intOf v).toNat)
    case atStart => exact ⟨0, by omega, rfl, by simp, H0, Lib.hid ⟨rfl, rfl, rfl, Nat.le_refl _, fun _ _ _ => rfl⟩⟩
    case round =>
      obtain ⟨j, hj, rfl, rfl, hr, hg⟩ := hrel
      clear H0
      by_cases hlt : j < n
      · obtain ⟨u0, hu0, hd⟩ := drop_cons (cs := cs) (q := j * 9) (by rw [HCL.out]; omega)
        have hpl : ((flmarks k0 j).flatMap FlC).length = j * 9 := by rw [flat_len (flmarks_len k0 j), flmarks_length]
        rw [hd] at hr
        have c0 : wr.cell? ⟨g, j * 9, none⟩ = some u0 := by
          rw [hr.out.cell, List.getElem?_append_right (by omega), hpl, Nat.sub_self]
          rfl
        have f0 := hr.out.frozen (j * 9)
        have v0 : IntKind.i8.wrap (k0 + 9 * (j : Int)) = k0 + 9 * (j : Int) := IntWalk.i8_in _ (by omega)
        have hr2 : Hid (Row (wr.setCell ⟨g, j * 9, none⟩ (.int .i8 (k0 + 9 * (j : Int)))) g E (((flmarks k0 j).flatMap FlC ++ .int .i8 (k0 + 9 * (j : Int)) :: nums .i32 (gm (k0 + 9 * (j : Int) + 1) 0)) ++ cs.drop (j * 9 + 1 + 0))) := Lib.hid (by
          have := hr.out.set (j * 9) (.int .i8 (k0 + 9 * (j : Int)))
          rw [set_app _ _ _ _ _ hpl.symm] at this
          simpa [gm, nums] using this)
        have hg2 := Lib.hid (grown_set9 hg.out (j * 9) (.int .i8 (k0 + 9 * (j : Int))))
        have HPL := Lib.hid hpl
        clear hr hg hd hu0 hpl
        go_wp2_with fail
        clear c0 f0
        rename World => W0
        go_loopw [1, 6] (fun kk v wr => ∃ i : Nat, i ≤ 8 ∧ v = .int .i64 i ∧ kk = .int .i64 (k0 + 9 * (j : Int) + 1 + (i : Int)) ∧ Hid (Row wr g E (((flmarks k0 j).flatMap FlC ++ .int .i8 (k0 + 9 * (j : Int)) :: nums .i32 (gm (k0 + 9 * (j : Int) + 1) i)) ++ cs.drop (j * 9 + 1 + i))) ∧ Hid (w.grownBy wr (some g))) (fun _ v _ => 8 - (intOf v).toNat)
        case atStart => exact ⟨0, by omega, rfl, by simp, hr2, hg2⟩
        case round =>
          clear hr2 hg2
          obtain ⟨i, hi, rfl, rfl, hr, hg⟩ := hrel
          by_cases hit : i < 8
          · obtain ⟨u0, hu0, hd⟩ := drop_cons (cs := cs) (q := j * 9 + 1 + i) (by rw [HCL.out]; omega)
            have hpl : ((flmarks k0 j).flatMap FlC ++ Value.int .i8 (k0 + 9 * (j : Int)) :: nums .i32 (gm (k0 + 9 * (j : Int) + 1) i)).length = j * 9 + 1 + i := by rw [List.length_append, HPL.out, List.length_cons, nums_length, gm_len]; omega
            rw [hd] at hr
            have c0 : wr.cell? ⟨g, j * 9 + 1 + i, none⟩ = some u0 := by
              rw [hr.out.cell, List.getElem?_append_right (by omega), hpl, Nat.sub_self]
              rfl
            have f0 := hr.out.frozen (j * 9 + 1 + i)
            have hi1 : (i : Int) < 8 := by omega
            have v1 : IntKind.i32.wrap (k0 + 9 * (j : Int) + 1 + (i : Int)) = k0 + 9 * (j : Int) + 1 + (i : Int) := IntWalk.i32_in _ (by omega)
            have hr3 : Hid (Row (wr.setCell ⟨g, j * 9 + 1 + i, none⟩ (.int .i32 (k0 + 9 * (j : Int) + 1 + (i : Int)))) g E (((flmarks k0 j).flatMap FlC ++ .int .i8 (k0 + 9 * (j : Int)) :: nums .i32 (gm (k0 + 9 * (j : Int) + 1) (i + 1))) ++ cs.drop (j * 9 + 1 + (i + 1)))) := Lib.hid (by
              have := hr.out.set (j * 9 + 1 + i) (.int .i32 (k0 + 9 * (j : Int) + 1 + (i : Int)))
              rw [set_app _ _ _ _ _ hpl.symm] at this
              rw [gm_succ]
              simpa [nums, Nat.add_assoc] using this)
            have hg3 := Lib.hid (grown_set9 hg.out (j * 9 + 1 + i) (.int .i32 (k0 + 9 * (j : Int) + 1 + (i : Int))))
            clear hr hg hd hu0 hpl
            go_wp2_with fail
            clear v1
            go_roundw
            case rel => exact ⟨i + 1, by omega, by go_num, by show Value.int .i64 _ = Value.int .i64 _; congr 1; omega, hr3, hg3⟩
            case measure => simp [intOf]; omega
          · have hi1 : ¬ (i : Int) < 8 := by omega
            obtain rfl : i = 8 := by omega
            have hr4 : Hid (Row wr g E ((flmarks k0 (j + 1)).flatMap FlC ++ cs.drop ((j + 1) * 9))) := Lib.hid (by
              rw [flmarks_succ, show (j + 1) * 9 = j * 9 + 1 + 8 by omega]
              exact hr.out)
            clear hr
            go_wp2_with fail
            go_roundw
            case rel => exact ⟨j + 1, by omega, by go_num, by show Value.int .i64 _ = Value.int .i64 _; congr 1; omega, hr4, hg⟩
            case measure => simp [intOf]; omega
      · obtain rfl : j = n := by omega
        have HOO : Hid (wr.ownsRow b E 9 (.slice (some ⟨g, 0, none⟩) j c) j ((flmarks k0 j).flatMap FlC)) := Lib.hid (by
          have h2 := hr.out
          rw [HDL.out] at h2
          have h3 := HHL.out
          have h4 := HX9.out
          have h5 : ((flmarks k0 j).flatMap FlC).length = j * 9 := by rw [flat_len (flmarks_len k0 j), flmarks_length]
          exact own_of_row h2 hbg hnc hcm h5 (by omega))
        clear hr
        have hni : ¬ (j : Int) < (j : Int) := by omega
        go_wp2_with fail
        go_ret
        exact ⟨rfl, HOO.out, by simpa [Value.ownBlock] using hg.out⟩
set_option maxHeartbeats 1000000 in
theorem heldFleeceS_any (A : Option Addr) (n c : Nat) (k0 : Int) (w : World) (R : Rds w A n 9 FlC (flmarks k0 n)) (hn : n ≤ 6) (h0 : 0 ≤ k0) (h1 : k0 ≤ 40) :
    Calls Tryd.prog 13 #[.slice A n c, .int .i64 k0] w fun e w' => e = .returned (.int .i64 (k0 + 9 * (n : Int))) ∧ w' = w := by
  have HR := Lib.hid R
  clear R
  go_enter Tryd.func13, Tryd.ntmps13
  go_wp2_with fail
  go_loopw [1, 5] (fun kk v wr => ∃ k : Nat, k ≤ n ∧ v = .int .i64 k ∧ kk = .int .i64 (k0 + 9 * (k : Int)) ∧ wr = w) (fun _ v _ => n - (intOf v).toNat)
  case atStart => exact ⟨0, by omega, rfl, by simp, rfl⟩
  case round =>
    obtain ⟨j, hj, rfl, rfl, rfl⟩ := hrel
    by_cases hlt : j < n
    · obtain ⟨ad, x, rfl, hx, hm, hc0, hc⟩ := HR.out.cells hlt
      rw [flmarks_at hlt] at hx
      obtain rfl := Option.some.inj hx
      have c0 := hc0 _ rfl
      have HCC : Hid (∀ i : Nat, i < 8 → wr.cell? ⟨(ad.add (j * 9)).block, (ad.add (j * 9)).off + 1 + i, none⟩ = some (.int .i32 (k0 + 9 * (j : Int) + 1 + (i : Int)))) := Lib.hid (fun i hi => by
        have := hc i (.int .i32 (k0 + 9 * (j : Int) + 1 + (i : Int))) (by show (nums .i32 _)[i]? = _; rw [nums_get, gm_at hi]; rfl)
        rw [show (ad.add (j * 9)).off + 1 + i = (ad.add (j * 9)).off + (i + 1) by omega]
        exact this)
      have v0 : IntKind.i8.wrap (k0 + 9 * (j : Int)) = k0 + 9 * (j : Int) := IntWalk.i8_in _ (by omega)
      clear hx hm hc0 hc
      go_wp2_with fail
      clear c0 v0
      go_loopw [1, 6] (fun kk v w2 => ∃ i : Nat, i ≤ 8 ∧ v = .int .i64 i ∧ kk = .int .i64 (k0 + 9 * (j : Int) + 1 + (i : Int)) ∧ w2 = wr) (fun _ v _ => 8 - (intOf v).toNat)
      case atStart => exact ⟨0, by omega, rfl, by simp, rfl⟩
      case round =>
        obtain ⟨i, hi, rfl, rfl, rfl⟩ := hrel
        by_cases hit : i < 8
        · have hi1 : (i : Int) < 8 := by omega
          have c1 := HCC.out i hit
          have v1 : IntKind.i32.wrap (k0 + 9 * (j : Int) + 1 + (i : Int)) = k0 + 9 * (j : Int) + 1 + (i : Int) := IntWalk.i32_in _ (by omega)
          go_wp2_with fail
          clear v1 c1
          go_roundw
          case rel => exact ⟨i + 1, by omega, by go_num, by show Value.int .i64 _ = Value.int .i64 _; congr 1; omega, by first | rfl | trivial⟩
          case measure => simp [intOf]; omega
        · have hi1 : ¬ (i : Int) < 8 := by omega
          obtain rfl : i = 8 := by omega
          go_wp2_with fail
          go_roundw
          case rel => exact ⟨j + 1, by omega, by go_num, by show Value.int .i64 _ = Value.int .i64 _; congr 1; omega, by first | rfl | trivial⟩
          case measure => simp [intOf]; omega
    · obtain rfl : j = n := by omega
      have hni : ¬ (j : Int) < (j : Int) := by omega
      go_wp2_with fail
      go_ret
      exact ⟨rfl, rfl⟩
end Go.Proofs.YtjjdmabhmpkijaaDoor
