/- Contracts of areAll, slices.ContainsFunc and slices.IndexFunc, at each element type: they ask whether all elements, or any, are as a function says. -/
import Derived.Test.YtjbaaomodcgdgaaProg
import Derived.Test.YtjbaaomodcgdgaaK
import Derived.Handy
namespace Go.Proofs.Ytjbaaomodcgdgaa
open Go.RowKit
set_option linter.unusedVariables false
set_option linter.unusedSimpArgs false

theorem indexFunc_i32 {k : FuncId} {cap : Array Value} {p : Int → Bool} {I : World → Prop} {xs : List Int} (hI : ∀ w w', I w → Below w.heap.size w w' → I w')
    (hk : Enters Try.prog k) (hf : Hid (∀ x w, x ∈ xs → I w → Calls Try.prog k (#[.int .i32 x] ++ cap) w fun e w' => e = .returned (.bool (p x)) ∧ Below w.heap.size w w'))
    (A : Option Addr) (n c : Nat) (w : World) (R : Rds w A n 1 (fun x : Int => [.int .i32 x]) xs) (hw : I w) :
    Calls Try.prog 86 #[.slice A n c, .func (.func k) #[] cap] w fun e w' => e = .returned (.int .i64 (idxF p xs)) ∧ Below w.heap.size w w' := by
  have hl := R.1
  have hn := R.2.1
  have HL := Lib.hid hl; clear hl
  have HI := Lib.hid hI; clear hI
  have hk' : ∀ args w, (callFunc k args).run Try.prog w = .ok (.enter k args) w := hk
  clear hk
  go_enter Try.func86, Try.ntmps86
  go_wp2_with fail
  go_loopw [4, 8] (fun r v wr => ∃ k : Nat, k ≤ n ∧ v = .int .i64 k ∧ r = .int .i64 0 ∧ NotYet p xs k ∧ Below w.heap.size w wr ∧ I wr) (fun _ v _ => n - (intOf v).toNat)
  case atStart => exact ⟨0, by omega, rfl, rfl, NotYet.zero _ _, Below.refl _ _, hw⟩
  case round =>
    obtain ⟨j, hj, rfl, rfl, hny, hB, hIr⟩ := hrel
    by_cases hlt : j < n
    · obtain ⟨ad, x, rfl, hx, hc⟩ := (R.below hB).at1 hlt
      have HX := Lib.hid hx; clear hx
      have hm : x ∈ xs := List.mem_of_getElem? HX.out
      go_wp2_with ((with_reducible refine (hf.out x _ hm hIr).mono ?_); rintro e w1 ⟨rfl, hb1⟩)
      · go_ret
        exact ⟨by rw [idxF_at hny HX.out (by assumption)]; rfl, below_then hB hB.size hb1⟩
      · go_roundw
        case rel => exact ⟨j + 1, by omega, by go_num, rfl, hny.step HX.out (by simp_all), below_then hB hB.size hb1, HI.out _ _ hIr hb1⟩
        case measure => simp [intOf]; omega
    · go_wp2_with fail
      go_ret
      have hjn : j = xs.length := by rw [HL.out]; omega
      exact ⟨by rw [idxF_none (hjn ▸ hny)]; rfl, hB⟩

theorem containsFunc_i32 {k : FuncId} {cap : Array Value} {p : Int → Bool} {I : World → Prop} {xs : List Int} (hI : ∀ w w', I w → Below w.heap.size w w' → I w')
    (hk : Enters Try.prog k) (hf : Hid (∀ x w, x ∈ xs → I w → Calls Try.prog k (#[.int .i32 x] ++ cap) w fun e w' => e = .returned (.bool (p x)) ∧ Below w.heap.size w w'))
    (A : Option Addr) (n c : Nat) (w : World) (R : Rds w A n 1 (fun x : Int => [.int .i32 x]) xs) (hw : I w) :
    Calls Try.prog 81 #[.slice A n c, .func (.func k) #[] cap] w fun e w' => e = .returned (.bool (xs.any p)) ∧ Below w.heap.size w w' := by
  have HI := Lib.hid hI; clear hI
  have HK := Lib.hid hk; clear hk
  go_enter Try.func81, Try.ntmps81
  go_wp2_with (go_at_call 86; (with_reducible refine (indexFunc_i32 HI.out HK.out hf A n c _ R hw).mono ?_); rintro e w1 ⟨rfl, hb⟩)
  go_ret
  exact ⟨by rw [← idxF_any]; rfl, hb⟩
theorem areAll1_i32 {k : FuncId} {p : Int → Bool} (hk : Enters Try.prog k) (x : Int) (b : Nat) (w : World) (hc : w.cell? ⟨b, 0, none⟩ = some (.func (.func k) #[] #[]))
    (hf : Hid (Calls Try.prog k #[.int .i32 x] w fun e w' => e = .returned (.bool (p x)) ∧ Below w.heap.size w w')) :
    Calls Try.prog 82 #[.int .i32 x, .pointer (some ⟨b, 0, none⟩)] w fun e w' => e = .returned (.bool (!p x)) ∧ Below w.heap.size w w' := by
  have hk' : ∀ args w, (callFunc k args).run Try.prog w = .ok (.enter k args) w := hk
  clear hk
  go_enter Try.func82, Try.ntmps82
  go_wp2_with ((with_reducible refine hf.out.mono ?_); rintro e w1 ⟨rfl, hb⟩)
  go_ret
  exact ⟨rfl, hb⟩
/-- areAll: whether all elements are as the function k says. -/
theorem areAll_i32 {k : FuncId} {p : Int → Bool} {xs : List Int} (hk : Enters Try.prog k) (hf : Hid (∀ x w, x ∈ xs → Calls Try.prog k #[.int .i32 x] w fun e w' => e = .returned (.bool (p x)) ∧ Below w.heap.size w w'))
    (A : Option Addr) (n c : Nat) (w : World) (R : Rds w A n 1 (fun x : Int => [.int .i32 x]) xs) :
    Calls Try.prog 70 #[.slice A n c, .func (.func k) #[] #[]] w fun e w' => e = .returned (.bool (xs.all p)) ∧ Below w.heap.size w w' := by
  have HK := Lib.hid hk; clear hk
  have R1 := R.below (below_alloc1 w (.cells #[.func (.func k) #[] #[]] 92))
  clear R
  go_enter Try.func70, Try.ntmps70
  go_wp2_with (go_at_call 81; (refine (containsFunc_i32 (k := 82) (cap := #[.pointer (some ⟨w.heap.size, 0, none⟩)]) (p := fun x => !p x) (I := fun w' => w'.cell? ⟨w.heap.size, 0, none⟩ = some (.func (.func k) #[] #[])) (xs := xs) ?_ (enters_of Try.func82 rfl (by decide)) ?_ A n c _ R1 ?_).mono ?_); rotate_left 3; rintro e w1 ⟨rfl, hb⟩)
  case refine_1 => exact fun w1 w2 h hb => (hb.cell (World.block_lt_of_cell? _ _ h)).trans h
  case refine_2 => exact fun x w1 hx hc => areAll1_i32 HK.out x _ w1 hc (hf.out x w1 hx)
  case refine_3 => simp [go_sem]
  go_ret
  exact ⟨by simp [any_not], below_then (below_alloc1 w _) (by go_size) hb⟩

theorem indexFunc_i64 {k : FuncId} {cap : Array Value} {p : Int → Bool} {I : World → Prop} {xs : List Int} (hI : ∀ w w', I w → Below w.heap.size w w' → I w')
    (hk : Enters Try.prog k) (hf : Hid (∀ x w, x ∈ xs → I w → Calls Try.prog k (#[.int .i64 x] ++ cap) w fun e w' => e = .returned (.bool (p x)) ∧ Below w.heap.size w w'))
    (A : Option Addr) (n c : Nat) (w : World) (R : Rds w A n 1 (fun x : Int => [.int .i64 x]) xs) (hw : I w) :
    Calls Try.prog 85 #[.slice A n c, .func (.func k) #[] cap] w fun e w' => e = .returned (.int .i64 (idxF p xs)) ∧ Below w.heap.size w w' := by
  have hl := R.1
  have hn := R.2.1
  have HL := Lib.hid hl; clear hl
  have HI := Lib.hid hI; clear hI
  have hk' : ∀ args w, (callFunc k args).run Try.prog w = .ok (.enter k args) w := hk
  clear hk
  go_enter Try.func85, Try.ntmps85
  go_wp2_with fail
  go_loopw [4, 8] (fun r v wr => ∃ k : Nat, k ≤ n ∧ v = .int .i64 k ∧ r = .int .i64 0 ∧ NotYet p xs k ∧ Below w.heap.size w wr ∧ I wr) (fun _ v _ => n - (intOf v).toNat)
  case atStart => exact ⟨0, by omega, rfl, rfl, NotYet.zero _ _, Below.refl _ _, hw⟩
  case round =>
    obtain ⟨j, hj, rfl, rfl, hny, hB, hIr⟩ := hrel
    by_cases hlt : j < n
    · obtain ⟨ad, x, rfl, hx, hc⟩ := (R.below hB).at1 hlt
      have HX := Lib.hid hx; clear hx
      have hm : x ∈ xs := List.mem_of_getElem? HX.out
      go_wp2_with ((with_reducible refine (hf.out x _ hm hIr).mono ?_); rintro e w1 ⟨rfl, hb1⟩)
      · go_ret
        exact ⟨by rw [idxF_at hny HX.out (by assumption)]; rfl, below_then hB hB.size hb1⟩
      · go_roundw
        case rel => exact ⟨j + 1, by omega, by go_num, rfl, hny.step HX.out (by simp_all), below_then hB hB.size hb1, HI.out _ _ hIr hb1⟩
        case measure => simp [intOf]; omega
    · go_wp2_with fail
      go_ret
      have hjn : j = xs.length := by rw [HL.out]; omega
      exact ⟨by rw [idxF_none (hjn ▸ hny)]; rfl, hB⟩

theorem containsFunc_i64 {k : FuncId} {cap : Array Value} {p : Int → Bool} {I : World → Prop} {xs : List Int} (hI : ∀ w w', I w → Below w.heap.size w w' → I w')
    (hk : Enters Try.prog k) (hf : Hid (∀ x w, x ∈ xs → I w → Calls Try.prog k (#[.int .i64 x] ++ cap) w fun e w' => e = .returned (.bool (p x)) ∧ Below w.heap.size w w'))
    (A : Option Addr) (n c : Nat) (w : World) (R : Rds w A n 1 (fun x : Int => [.int .i64 x]) xs) (hw : I w) :
    Calls Try.prog 77 #[.slice A n c, .func (.func k) #[] cap] w fun e w' => e = .returned (.bool (xs.any p)) ∧ Below w.heap.size w w' := by
  have HI := Lib.hid hI; clear hI
  have HK := Lib.hid hk; clear hk
  go_enter Try.func77, Try.ntmps77
  go_wp2_with (go_at_call 85; (with_reducible refine (indexFunc_i64 HI.out HK.out hf A n c _ R hw).mono ?_); rintro e w1 ⟨rfl, hb⟩)
  go_ret
  exact ⟨by rw [← idxF_any]; rfl, hb⟩
theorem areAll1_i64 {k : FuncId} {p : Int → Bool} (hk : Enters Try.prog k) (x : Int) (b : Nat) (w : World) (hc : w.cell? ⟨b, 0, none⟩ = some (.func (.func k) #[] #[]))
    (hf : Hid (Calls Try.prog k #[.int .i64 x] w fun e w' => e = .returned (.bool (p x)) ∧ Below w.heap.size w w')) :
    Calls Try.prog 78 #[.int .i64 x, .pointer (some ⟨b, 0, none⟩)] w fun e w' => e = .returned (.bool (!p x)) ∧ Below w.heap.size w w' := by
  have hk' : ∀ args w, (callFunc k args).run Try.prog w = .ok (.enter k args) w := hk
  clear hk
  go_enter Try.func78, Try.ntmps78
  go_wp2_with ((with_reducible refine hf.out.mono ?_); rintro e w1 ⟨rfl, hb⟩)
  go_ret
  exact ⟨rfl, hb⟩
/-- areAll: whether all elements are as the function k says. -/
theorem areAll_i64 {k : FuncId} {p : Int → Bool} {xs : List Int} (hk : Enters Try.prog k) (hf : Hid (∀ x w, x ∈ xs → Calls Try.prog k #[.int .i64 x] w fun e w' => e = .returned (.bool (p x)) ∧ Below w.heap.size w w'))
    (A : Option Addr) (n c : Nat) (w : World) (R : Rds w A n 1 (fun x : Int => [.int .i64 x]) xs) :
    Calls Try.prog 52 #[.slice A n c, .func (.func k) #[] #[]] w fun e w' => e = .returned (.bool (xs.all p)) ∧ Below w.heap.size w w' := by
  have HK := Lib.hid hk; clear hk
  have R1 := R.below (below_alloc1 w (.cells #[.func (.func k) #[] #[]] 83))
  clear R
  go_enter Try.func52, Try.ntmps52
  go_wp2_with (go_at_call 77; (refine (containsFunc_i64 (k := 78) (cap := #[.pointer (some ⟨w.heap.size, 0, none⟩)]) (p := fun x => !p x) (I := fun w' => w'.cell? ⟨w.heap.size, 0, none⟩ = some (.func (.func k) #[] #[])) (xs := xs) ?_ (enters_of Try.func78 rfl (by decide)) ?_ A n c _ R1 ?_).mono ?_); rotate_left 3; rintro e w1 ⟨rfl, hb⟩)
  case refine_1 => exact fun w1 w2 h hb => (hb.cell (World.block_lt_of_cell? _ _ h)).trans h
  case refine_2 => exact fun x w1 hx hc => areAll1_i64 HK.out x _ w1 hc (hf.out x w1 hx)
  case refine_3 => simp [go_sem]
  go_ret
  exact ⟨by simp [any_not], below_then (below_alloc1 w _) (by go_size) hb⟩



end Go.Proofs.Ytjbaaomodcgdgaa
