/- Contracts of areAll, slices.ContainsFunc and slices.IndexFunc over lists of fleeces. -/
import Derived.Test.YtjbaaomodcgdgaaU1
namespace Go.Proofs.Ytjbaaomodcgdgaa
open Go.RowKit
set_option linter.unusedVariables false
set_option linter.unusedSimpArgs false
set_option maxHeartbeats 1000000 in
theorem indexFunc_F {k : FuncId} {cap : Array Value} {p : Int × List Int → Bool} {I : World → Prop} {xs : List (Int × List Int)} (hI : ∀ w w', I w → Below w.heap.size w w' → I w')
    (hk : Enters Try.prog k) (hf : Hid (∀ f a0 a1 a2 a3 a4 a5 a6 a7 w, (f, [a0, a1, a2, a3, a4, a5, a6, a7]) ∈ xs → I w → Calls Try.prog k (#[.agg #[.int .i8 f, .int .i32 a0, .int .i32 a1, .int .i32 a2, .int .i32 a3, .int .i32 a4, .int .i32 a5, .int .i32 a6, .int .i32 a7]] ++ cap) w fun e w' => e = .returned (.bool (p (f, [a0, a1, a2, a3, a4, a5, a6, a7]))) ∧ Below w.heap.size w w')) (h8 : Hid (∀ x ∈ xs, x.2.length = 8))
    (A : Option Addr) (n c : Nat) (w : World) (R : Rds w A n 9 FlC xs) (hw : I w) :
    Calls Try.prog 80 #[.slice A n c, .func (.func k) #[] cap] w fun e w' => e = .returned (.int .i64 (idxF p xs)) ∧ Below w.heap.size w w' := by
  have hl := R.1
  have hn := R.2.1
  have HL := Lib.hid hl; clear hl
  have HI := Lib.hid hI; clear hI
  have hk' : ∀ args w, (callFunc k args).run Try.prog w = .ok (.enter k args) w := hk
  clear hk
  go_enter Try.func80, Try.ntmps80
  go_wp2_with fail
  go_loopw [4, 8] (fun r v wr => ∃ k : Nat, k ≤ n ∧ v = .int .i64 k ∧ r = .int .i64 0 ∧ NotYet p xs k ∧ Below w.heap.size w wr ∧ I wr) (fun _ v _ => n - (intOf v).toNat)
  case atStart => exact ⟨0, by omega, rfl, rfl, NotYet.zero _ _, Below.refl _ _, hw⟩
  case round =>
    obtain ⟨j, hj, rfl, rfl, hny, hB, hIr⟩ := hrel
    by_cases hlt : j < n
    · obtain ⟨ad, x, rfl, hx, hm, hc0, hc⟩ := (R.below hB).cells hlt
      obtain ⟨f, L⟩ := x
      obtain ⟨a0, a1, a2, a3, a4, a5, a6, a7, rfl⟩ := heap8 (h8.out _ hm)
      have e0 : wr.cell? (ad.add (j * 9)) = some (.int .i8 f) := hc0 _ rfl
      have e1 : wr.cell? ⟨(ad.add (j * 9)).block, (ad.add (j * 9)).off + 1, none⟩ = some (.int .i32 a0) := hc 0 _ rfl
      have e2 : wr.cell? ⟨(ad.add (j * 9)).block, (ad.add (j * 9)).off + 2, none⟩ = some (.int .i32 a1) := hc 1 _ rfl
      have e3 : wr.cell? ⟨(ad.add (j * 9)).block, (ad.add (j * 9)).off + 3, none⟩ = some (.int .i32 a2) := hc 2 _ rfl
      have e4 : wr.cell? ⟨(ad.add (j * 9)).block, (ad.add (j * 9)).off + 4, none⟩ = some (.int .i32 a3) := hc 3 _ rfl
      have e5 : wr.cell? ⟨(ad.add (j * 9)).block, (ad.add (j * 9)).off + 5, none⟩ = some (.int .i32 a4) := hc 4 _ rfl
      have e6 : wr.cell? ⟨(ad.add (j * 9)).block, (ad.add (j * 9)).off + 6, none⟩ = some (.int .i32 a5) := hc 5 _ rfl
      have e7 : wr.cell? ⟨(ad.add (j * 9)).block, (ad.add (j * 9)).off + 7, none⟩ = some (.int .i32 a6) := hc 6 _ rfl
      have e8 : wr.cell? ⟨(ad.add (j * 9)).block, (ad.add (j * 9)).off + 8, none⟩ = some (.int .i32 a7) := hc 7 _ rfl
      clear hc hc0
      have HX := Lib.hid hx; clear hx
      have HM := Lib.hid hm; clear hm
      have HNY := Lib.hid hny; clear hny
      go_wp2_with ((with_reducible refine (hf.out _ _ _ _ _ _ _ _ _ _ HM.out hIr).mono ?_); rintro e w1 ⟨rfl, hb1⟩)
      · go_ret
        exact ⟨by rw [idxF_at HNY.out HX.out (by assumption)]; rfl, below_then hB hB.size hb1⟩
      · go_roundw
        case rel => exact ⟨j + 1, by omega, by go_num, rfl, HNY.out.step HX.out (by simp_all), below_then hB hB.size hb1, HI.out _ _ hIr hb1⟩
        case measure => simp [intOf]; omega
    · go_wp2_with fail
      go_ret
      have hjn : j = xs.length := by rw [HL.out]; omega
      exact ⟨by rw [idxF_none (hjn ▸ hny)]; rfl, hB⟩
theorem containsFunc_F {k : FuncId} {cap : Array Value} {p : Int × List Int → Bool} {I : World → Prop} {xs : List (Int × List Int)} (hI : ∀ w w', I w → Below w.heap.size w w' → I w')
    (hk : Enters Try.prog k) (hf : Hid (∀ f a0 a1 a2 a3 a4 a5 a6 a7 w, (f, [a0, a1, a2, a3, a4, a5, a6, a7]) ∈ xs → I w → Calls Try.prog k (#[.agg #[.int .i8 f, .int .i32 a0, .int .i32 a1, .int .i32 a2, .int .i32 a3, .int .i32 a4, .int .i32 a5, .int .i32 a6, .int .i32 a7]] ++ cap) w fun e w' => e = .returned (.bool (p (f, [a0, a1, a2, a3, a4, a5, a6, a7]))) ∧ Below w.heap.size w w')) (h8 : Hid (∀ x ∈ xs, x.2.length = 8))
    (A : Option Addr) (n c : Nat) (w : World) (R : Rds w A n 9 FlC xs) (hw : I w) :
    Calls Try.prog 68 #[.slice A n c, .func (.func k) #[] cap] w fun e w' => e = .returned (.bool (xs.any p)) ∧ Below w.heap.size w w' := by
  have HI := Lib.hid hI; clear hI
  have HK := Lib.hid hk; clear hk
  go_enter Try.func68, Try.ntmps68
  go_wp2_with (go_at_call 80; (with_reducible refine (indexFunc_F HI.out HK.out hf h8 A n c _ R hw).mono ?_); rintro e w1 ⟨rfl, hb⟩)
  go_ret
  exact ⟨by rw [← idxF_any]; rfl, hb⟩
theorem areAll1_F {k : FuncId} {p : Int × List Int → Bool} (hk : Enters Try.prog k) (f a0 a1 a2 a3 a4 a5 a6 a7 : Int) (b : Nat) (w : World) (hc : w.cell? ⟨b, 0, none⟩ = some (.func (.func k) #[] #[]))
    (hf : Hid (∀ w1, Below w.heap.size w w1 → Calls Try.prog k #[.agg #[.int .i8 f, .int .i32 a0, .int .i32 a1, .int .i32 a2, .int .i32 a3, .int .i32 a4, .int .i32 a5, .int .i32 a6, .int .i32 a7]] w1 fun e w' => e = .returned (.bool (p (f, [a0, a1, a2, a3, a4, a5, a6, a7]))) ∧ Below w1.heap.size w1 w')) :
    Calls Try.prog 69 #[.agg #[.int .i8 f, .int .i32 a0, .int .i32 a1, .int .i32 a2, .int .i32 a3, .int .i32 a4, .int .i32 a5, .int .i32 a6, .int .i32 a7], .pointer (some ⟨b, 0, none⟩)] w fun e w' => e = .returned (.bool (!p (f, [a0, a1, a2, a3, a4, a5, a6, a7]))) ∧ Below w.heap.size w w' := by
  have hk' : ∀ args w, (callFunc k args).run Try.prog w = .ok (.enter k args) w := hk
  clear hk
  have hlt := World.block_lt_of_cell? _ _ hc
  have hB := below_alloc1 w (.cells #[.int .i8 f, .int .i32 a0, .int .i32 a1, .int .i32 a2, .int .i32 a3, .int .i32 a4, .int .i32 a5, .int .i32 a6, .int .i32 a7] 48)
  go_enter Try.func69, Try.ntmps69
  go_wp2_with ((with_reducible refine (hf.out _ hB).mono ?_); rintro e w1 ⟨rfl, hb⟩)
  go_ret
  exact ⟨rfl, below_then hB hB.size hb⟩
/-- areAll: whether all elements are as the function k says. -/
theorem areAll_F {k : FuncId} {p : Int × List Int → Bool} {xs : List (Int × List Int)} (hk : Enters Try.prog k) (hf : Hid (∀ f a0 a1 a2 a3 a4 a5 a6 a7 w, (f, [a0, a1, a2, a3, a4, a5, a6, a7]) ∈ xs → Calls Try.prog k #[.agg #[.int .i8 f, .int .i32 a0, .int .i32 a1, .int .i32 a2, .int .i32 a3, .int .i32 a4, .int .i32 a5, .int .i32 a6, .int .i32 a7]] w fun e w' => e = .returned (.bool (p (f, [a0, a1, a2, a3, a4, a5, a6, a7]))) ∧ Below w.heap.size w w')) (h8 : Hid (∀ x ∈ xs, x.2.length = 8))
    (A : Option Addr) (n c : Nat) (w : World) (R : Rds w A n 9 FlC xs) :
    Calls Try.prog 34 #[.slice A n c, .func (.func k) #[] #[]] w fun e w' => e = .returned (.bool (xs.all p)) ∧ Below w.heap.size w w' := by
  have HK := Lib.hid hk; clear hk
  have R1 := R.below (below_alloc1 w (.cells #[.func (.func k) #[] #[]] 65))
  clear R
  go_enter Try.func34, Try.ntmps34
  go_wp2_with (go_at_call 68; (refine (containsFunc_F (k := 69) (cap := #[.pointer (some ⟨w.heap.size, 0, none⟩)]) (p := fun x => !p x) (I := fun w' => w'.cell? ⟨w.heap.size, 0, none⟩ = some (.func (.func k) #[] #[])) (xs := xs) ?_ (enters_of Try.func69 rfl (by decide)) ?_ h8 A n c _ R1 ?_).mono ?_); rotate_left 3; rintro e w1 ⟨rfl, hb⟩)
  case refine_1 => exact fun w1 w2 h hb => (hb.cell (World.block_lt_of_cell? _ _ h)).trans h
  case refine_2 => exact fun f a0 a1 a2 a3 a4 a5 a6 a7 w1 hx hc => areAll1_F HK.out f a0 a1 a2 a3 a4 a5 a6 a7 _ w1 hc (Lib.hid fun w2 _ => hf.out f a0 a1 a2 a3 a4 a5 a6 a7 w2 hx)
  case refine_3 => simp [go_sem]
  go_ret
  exact ⟨by simp [any_not], below_then (below_alloc1 w _) (by go_size) hb⟩
end Go.Proofs.Ytjbaaomodcgdgaa
