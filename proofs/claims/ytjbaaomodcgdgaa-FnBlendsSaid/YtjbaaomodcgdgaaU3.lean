/- Contracts: the code of a list of fleeces, on both sides; GradesOf. -/
import Derived.Test.YtjbaaomodcgdgaaU2
import Derived.OwnWalk
namespace Go.Proofs.Ytjbaaomodcgdgaa
open Go.RowKit
set_option linter.unusedVariables false
set_option linter.unusedSimpArgs false
def FlOk (xs : List (Int × List Int)) : Prop := ∀ x ∈ xs, (Lit.int .i8 x.1).wf = true ∧ x.2.length = 8 ∧ ∀ y ∈ x.2, (Lit.int .i32 y).wf = true
theorem FlOk.len {xs : List (Int × List Int)} (h : FlOk xs) : ∀ x ∈ xs, x.2.length = 8 := fun x hx => (h x hx).2.1
theorem i8_rng {x : Int} (h : (Lit.int .i8 x).wf = true) : -128 ≤ x ∧ x ≤ 127 := by simp [Lit.wf, IntKind.min, IntKind.max, IntKind.signed, IntKind.bits] at h; omega
def flB (xs : List (Int × List Int)) : Bool := xs.all fun x => fleeceOk x.1 x.2
def flC (xs : List (Int × List Int)) (fine : Bool) : Int := if flB xs then (if fine then (if xs.length ≤ 6 then 0 else 3) else 2) else 1
theorem flB_no {xs : List (Int × List Int)} {x : Int × List Int} {j : Nat} (hx : xs[j]? = some x) (h : fleeceOk x.1 x.2 = false) : flB xs = false := by
  unfold flB
  rw [List.all_eq_false]
  exact ⟨x, List.mem_of_getElem? hx, by simp [h]⟩
theorem flB_yes {xs : List (Int × List Int)} (h : NotYet (fun x => !fleeceOk x.1 x.2) xs xs.length) : flB xs = true := by
  unfold flB
  rw [List.all_eq_true]
  intro x hx
  obtain ⟨j, hj, rfl⟩ := List.getElem_of_mem hx
  have := h j _ hj (List.getElem?_eq_getElem hj)
  simpa using this
theorem sl01Fleece_at (p : Addr) (f : Int) (L : List Int) (w : World) (hf : -128 ≤ f ∧ f ≤ 127) (hl : L.length = 8) (hw : Hid (∀ x ∈ L, (Lit.int .i32 x).wf = true)) (c0 : w.cell? p = some (.int .i8 f))
    (rr : Hid (∀ k x, L[k]? = some x → w.cell? ⟨p.block, p.off + 1 + k, none⟩ = some (.int .i32 x))) :
    Calls Try.prog 84 #[.pointer (some p)] w fun e w' => e = .returned (.bool (fleeceOk f L)) ∧ w = w' := by
  cases h : inB f 0 9
  all_goals
    go_enter Try.func84, Try.ntmps84
    go_wp2_with (first
      | (go_at_call 47; (refine (l00In_any _ _ _ _).mono ?_); rintro e w' ⟨rfl, rfl⟩)
      | (go_at_call 45; (refine (l01Heap_at p.block (p.off + 1) L _ rr hl hw).mono ?_); rintro e w1 ⟨rfl, rfl⟩))
    go_ret
    exact ⟨by simp [fleeceOk, h], rfl⟩
set_option maxHeartbeats 1000000 in
theorem l01Fleeces_any (A : Option Addr) (n c : Nat) (xs : List (Int × List Int)) (fine : Bool) (w : World) (R : Rds w A n 9 FlC xs) (hF : Hid (FlOk xs)) :
    Calls Try.prog 75 #[.slice A n c, .bool fine] w fun e w' => e = .returned (.int .i64 (flC xs fine)) ∧ w = w' := by
  have hn := R.2.1
  have HXL := Lib.hid R.1
  go_enter Try.func75, Try.ntmps75
  go_wp2_with fail
  go_loop [5] (fun v => ∃ k : Nat, k ≤ n ∧ v = .int .i64 k ∧ Hid (NotYet (fun x => !fleeceOk x.1 x.2) xs k)) (fun v => n - (intOf v).toNat)
  case atStart => exact ⟨0, by omega, rfl, Lib.hid (NotYet.zero _ _)⟩
  case round =>
    obtain ⟨j, hj, rfl, H⟩ := hrel
    by_cases hlt : j < n
    · obtain ⟨ad, x, rfl, hx, hm, hc0, hc⟩ := R.cells hlt
      obtain ⟨g1, g2, g3⟩ := hF.out x hm
      have gf := i8_rng g1
      have G3 := Lib.hid g3; have HX := Lib.hid hx
      have c0 := hc0 _ rfl
      have rr : Hid (∀ k y, x.2[k]? = some y → w.cell? ⟨(ad.add (j * 9)).block, (ad.add (j * 9)).off + 1 + k, none⟩ = some (.int .i32 y)) := Lib.hid fun k y hy => by
        have := hc k (.int .i32 y) (by show (nums .i32 x.2)[k]? = _; rw [nums_get, hy]; rfl)
        rw [show (ad.add (j * 9)).off + 1 + k = (ad.add (j * 9)).off + (k + 1) by omega]
        exact this
      have C0 := Lib.hid c0
      clear hx hm hc0 hc g1 g3 c0
      cases hok : fleeceOk x.1 x.2
      · have e1 := Lib.hid (flB_no HX.out hok)
        go_wp2_with (go_at_call 84; (refine (sl01Fleece_at (ad.add (j * 9)) x.1 x.2 _ gf g2 G3 C0.out rr).mono ?_); rintro e w' ⟨rfl, rfl⟩; rw [hok])
        go_ret
        exact ⟨by rw [flC, e1.out]; rfl, rfl⟩
      · go_wp2_with (go_at_call 84; (refine (sl01Fleece_at (ad.add (j * 9)) x.1 x.2 _ gf g2 G3 C0.out rr).mono ?_); rintro e w' ⟨rfl, rfl⟩; rw [hok])
        go_round
        case rel => exact ⟨j + 1, by omega, by go_num, Lib.hid (H.out.step HX.out (by simp [hok]))⟩
        case measure => simp [intOf]; omega
    · obtain rfl : j = n := by omega
      have e1 := Lib.hid (flB_yes (by rw [HXL.out]; exact H.out))
      cases fine
      · go_wp2_with fail
        go_ret
        exact ⟨by rw [flC, e1.out]; rfl, rfl⟩
      · by_cases h6 : j ≤ 6
        · have h6i : ¬ (6 : Int) < (j : Int) := by omega
          go_wp2_with fail
          go_ret
          exact ⟨by rw [flC, e1.out, HXL.out, if_pos rfl, if_pos rfl, if_pos h6]; rfl, rfl⟩
        · have h6i : (6 : Int) < (j : Int) := by omega
          go_wp2_with fail
          go_ret
          exact ⟨by rw [flC, e1.out, HXL.out, if_pos rfl, if_pos rfl, if_neg h6]; rfl, rfl⟩
end Go.Proofs.Ytjbaaomodcgdgaa
