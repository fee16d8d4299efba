/- Contracts of areAll, slices.ContainsFunc and slices.IndexFunc, at each element type: they ask whether all elements, or any, are as a function says. -/
import Derived.Test.YtefipngapgffdaaGreatDoorProg
import Derived.Test.YtefipngapgffdaaGreatDoorK
import Derived.Handy
namespace Go.Proofs.YtefipngapgffdaaGreatDoor
open Go.RowKit
set_option linter.unusedVariables false
set_option linter.unusedSimpArgs false



theorem indexFunc_i64 {k : FuncId} {cap : Array Value} {p : Int → Bool} {I : World → Prop} {xs : List Int} (hI : ∀ w w', I w → Below w.heap.size w w' → I w')
    (hk : Enters Tryz.prog k) (hf : Hid (∀ x w, x ∈ xs → I w → Calls Tryz.prog k (#[.int .i64 x] ++ cap) w fun e w' => e = .returned (.bool (p x)) ∧ Below w.heap.size w w'))
    (A : Option Addr) (n c : Nat) (w : World) (R : Rds w A n 1 (fun x : Int => [.int .i64 x]) xs) (hw : I w) :
    Calls Tryz.prog 92 #[.slice A n c, .func (.func k) #[] cap] w fun e w' => e = .returned (.int .i64 (idxF p xs)) ∧ Below w.heap.size w w' := by
  have hl := R.1
  have hn := R.2.1
  have HL := Lib.hid hl; clear hl
  have HI := Lib.hid hI; clear hI
  have hk' : ∀ args w, (callFunc k args).run Tryz.prog w = .ok (.enter k args) w := hk
  clear hk
  go_enter Tryz.func92, Tryz.ntmps92
  go_wp2_with fail
  go_loopw [4, 8] (fun r v wr => ∃ k : Nat, k ≤ n ∧ v = .int .i64 k ∧ r = .int .i64 0 ∧ NotYet p xs k ∧ Below w.heap.size w wr ∧ I wr) (fun _ v _ => n - (intOf v).toNat)
  case atStart => exact ⟨0, by omega, rfl, rfl, NotYet.zero _ _, Below.refl _ _, hw⟩
  case round =>
    obtain ⟨j, hj, rfl, rfl, hny, hB, hIr⟩ := hrel
    by_cases hlt : j < n
    · obtain ⟨ad, x, rfl, hx, hc⟩ := (R.below hB).at1 hlt
      have HX := Lib.hid hx; clear hx
      have hm : x ∈ xs := List.mem_of_getElem? HX.out
      go_wp2_with ((with_reducible refine (hf.out x _ hm hIr).mono ?_); rintro e w1 ⟨rfl, hb1⟩)
      · go_ret
        exact ⟨by rw [idxF_at hny HX.out (by assumption)]; rfl, below_then hB hB.size hb1⟩
      · go_roundw
        case rel => exact ⟨j + 1, by omega, by go_num, rfl, hny.step HX.out (by simp_all), below_then hB hB.size hb1, HI.out _ _ hIr hb1⟩
        case measure => simp [intOf]; omega
    · go_wp2_with fail
      go_ret
      have hjn : j = xs.length := by rw [HL.out]; omega
      exact ⟨by rw [idxF_none (hjn ▸ hny)]; rfl, hB⟩

theorem containsFunc_i64 {k : FuncId} {cap : Array Value} {p : Int → Bool} {I : World → Prop} {xs : List Int} (hI : ∀ w w', I w → Below w.heap.size w w' → I w')
    (hk : Enters Tryz.prog k) (hf : Hid (∀ x w, x ∈ xs → I w → Calls Tryz.prog k (#[.int .i64 x] ++ cap) w fun e w' => e = .returned (.bool (p x)) ∧ Below w.heap.size w w'))
    (A : Option Addr) (n c : Nat) (w : World) (R : Rds w A n 1 (fun x : Int => [.int .i64 x]) xs) (hw : I w) :
    Calls Tryz.prog 79 #[.slice A n c, .func (.func k) #[] cap] w fun e w' => e = .returned (.bool (xs.any p)) ∧ Below w.heap.size w w' := by
  have HI := Lib.hid hI; clear hI
  have HK := Lib.hid hk; clear hk
  go_enter Tryz.func79, Tryz.ntmps79
  go_wp2_with (go_at_call 92; (with_reducible refine (indexFunc_i64 HI.out HK.out hf A n c _ R hw).mono ?_); rintro e w1 ⟨rfl, hb⟩)
  go_ret
  exact ⟨by rw [← idxF_any]; rfl, hb⟩
theorem areAll1_i64 {k : FuncId} {p : Int → Bool} (hk : Enters Tryz.prog k) (x : Int) (b : Nat) (w : World) (hc : w.cell? ⟨b, 0, none⟩ = some (.func (.func k) #[] #[]))
    (hf : Hid (Calls Tryz.prog k #[.int .i64 x] w fun e w' => e = .returned (.bool (p x)) ∧ Below w.heap.size w w')) :
    Calls Tryz.prog 80 #[.int .i64 x, .pointer (some ⟨b, 0, none⟩)] w fun e w' => e = .returned (.bool (!p x)) ∧ Below w.heap.size w w' := by
  have hk' : ∀ args w, (callFunc k args).run Tryz.prog w = .ok (.enter k args) w := hk
  clear hk
  go_enter Tryz.func80, Tryz.ntmps80
  go_wp2_with ((with_reducible refine hf.out.mono ?_); rintro e w1 ⟨rfl, hb⟩)
  go_ret
  exact ⟨rfl, hb⟩
/-- areAll: whether all elements are as the function k says. -/
theorem areAll_i64 {k : FuncId} {p : Int → Bool} {xs : List Int} (hk : Enters Tryz.prog k) (hf : Hid (∀ x w, x ∈ xs → Calls Tryz.prog k #[.int .i64 x] w fun e w' => e = .returned (.bool (p x)) ∧ Below w.heap.size w w'))
    (A : Option Addr) (n c : Nat) (w : World) (R : Rds w A n 1 (fun x : Int => [.int .i64 x]) xs) :
    Calls Tryz.prog 52 #[.slice A n c, .func (.func k) #[] #[]] w fun e w' => e = .returned (.bool (xs.all p)) ∧ Below w.heap.size w w' := by
  have HK := Lib.hid hk; clear hk
  have R1 := R.below (below_alloc1 w (.cells #[.func (.func k) #[] #[]] 54))
  clear R
  go_enter Tryz.func52, Tryz.ntmps52
  go_wp2_with (go_at_call 79; (refine (containsFunc_i64 (k := 80) (cap := #[.pointer (some ⟨w.heap.size, 0, none⟩)]) (p := fun x => !p x) (I := fun w' => w'.cell? ⟨w.heap.size, 0, none⟩ = some (.func (.func k) #[] #[])) (xs := xs) ?_ (enters_of Tryz.func80 rfl (by decide)) ?_ A n c _ R1 ?_).mono ?_); rotate_left 3; rintro e w1 ⟨rfl, hb⟩)
  case refine_1 => exact fun w1 w2 h hb => (hb.cell (World.block_lt_of_cell? _ _ h)).trans h
  case refine_2 => exact fun x w1 hx hc => areAll1_i64 HK.out x _ w1 hc (hf.out x w1 hx)
  case refine_3 => simp [go_sem]
  go_ret
  exact ⟨by simp [any_not], below_then (below_alloc1 w _) (by go_size) hb⟩

theorem indexFunc_u8 {k : FuncId} {cap : Array Value} {p : Int → Bool} {I : World → Prop} {xs : List Int} (hI : ∀ w w', I w → Below w.heap.size w w' → I w')
    (hk : Enters Tryz.prog k) (hf : Hid (∀ x w, x ∈ xs → I w → Calls Tryz.prog k (#[.int .u8 x] ++ cap) w fun e w' => e = .returned (.bool (p x)) ∧ Below w.heap.size w w'))
    (A : Option Addr) (n c : Nat) (w : World) (R : Rds w A n 1 (fun x : Int => [.int .u8 x]) xs) (hw : I w) :
    Calls Tryz.prog 90 #[.slice A n c, .func (.func k) #[] cap] w fun e w' => e = .returned (.int .i64 (idxF p xs)) ∧ Below w.heap.size w w' := by
  have hl := R.1
  have hn := R.2.1
  have HL := Lib.hid hl; clear hl
  have HI := Lib.hid hI; clear hI
  have hk' : ∀ args w, (callFunc k args).run Tryz.prog w = .ok (.enter k args) w := hk
  clear hk
  go_enter Tryz.func90, Tryz.ntmps90
  go_wp2_with fail
  go_loopw [4, 8] (fun r v wr => ∃ k : Nat, k ≤ n ∧ v = .int .i64 k ∧ r = .int .i64 0 ∧ NotYet p xs k ∧ Below w.heap.size w wr ∧ I wr) (fun _ v _ => n - (intOf v).toNat)
  case atStart => exact ⟨0, by omega, rfl, rfl, NotYet.zero _ _, Below.refl _ _, hw⟩
  case round =>
    obtain ⟨j, hj, rfl, rfl, hny, hB, hIr⟩ := hrel
    by_cases hlt : j < n
    · obtain ⟨ad, x, rfl, hx, hc⟩ := (R.below hB).at1 hlt
      have HX := Lib.hid hx; clear hx
      have hm : x ∈ xs := List.mem_of_getElem? HX.out
      go_wp2_with ((with_reducible refine (hf.out x _ hm hIr).mono ?_); rintro e w1 ⟨rfl, hb1⟩)
      · go_ret
        exact ⟨by rw [idxF_at hny HX.out (by assumption)]; rfl, below_then hB hB.size hb1⟩
      · go_roundw
        case rel => exact ⟨j + 1, by omega, by go_num, rfl, hny.step HX.out (by simp_all), below_then hB hB.size hb1, HI.out _ _ hIr hb1⟩
        case measure => simp [intOf]; omega
    · go_wp2_with fail
      go_ret
      have hjn : j = xs.length := by rw [HL.out]; omega
      exact ⟨by rw [idxF_none (hjn ▸ hny)]; rfl, hB⟩

theorem containsFunc_u8 {k : FuncId} {cap : Array Value} {p : Int → Bool} {I : World → Prop} {xs : List Int} (hI : ∀ w w', I w → Below w.heap.size w w' → I w')
    (hk : Enters Tryz.prog k) (hf : Hid (∀ x w, x ∈ xs → I w → Calls Tryz.prog k (#[.int .u8 x] ++ cap) w fun e w' => e = .returned (.bool (p x)) ∧ Below w.heap.size w w'))
    (A : Option Addr) (n c : Nat) (w : World) (R : Rds w A n 1 (fun x : Int => [.int .u8 x]) xs) (hw : I w) :
    Calls Tryz.prog 71 #[.slice A n c, .func (.func k) #[] cap] w fun e w' => e = .returned (.bool (xs.any p)) ∧ Below w.heap.size w w' := by
  have HI := Lib.hid hI; clear hI
  have HK := Lib.hid hk; clear hk
  go_enter Tryz.func71, Tryz.ntmps71
  go_wp2_with (go_at_call 90; (with_reducible refine (indexFunc_u8 HI.out HK.out hf A n c _ R hw).mono ?_); rintro e w1 ⟨rfl, hb⟩)
  go_ret
  exact ⟨by rw [← idxF_any]; rfl, hb⟩
theorem areAll1_u8 {k : FuncId} {p : Int → Bool} (hk : Enters Tryz.prog k) (x : Int) (b : Nat) (w : World) (hc : w.cell? ⟨b, 0, none⟩ = some (.func (.func k) #[] #[]))
    (hf : Hid (Calls Tryz.prog k #[.int .u8 x] w fun e w' => e = .returned (.bool (p x)) ∧ Below w.heap.size w w')) :
    Calls Tryz.prog 72 #[.int .u8 x, .pointer (some ⟨b, 0, none⟩)] w fun e w' => e = .returned (.bool (!p x)) ∧ Below w.heap.size w w' := by
  have hk' : ∀ args w, (callFunc k args).run Tryz.prog w = .ok (.enter k args) w := hk
  clear hk
  go_enter Tryz.func72, Tryz.ntmps72
  go_wp2_with ((with_reducible refine hf.out.mono ?_); rintro e w1 ⟨rfl, hb⟩)
  go_ret
  exact ⟨rfl, hb⟩
/-- areAll: whether all elements are as the function k says. -/
theorem areAll_u8 {k : FuncId} {p : Int → Bool} {xs : List Int} (hk : Enters Tryz.prog k) (hf : Hid (∀ x w, x ∈ xs → Calls Tryz.prog k #[.int .u8 x] w fun e w' => e = .returned (.bool (p x)) ∧ Below w.heap.size w w'))
    (A : Option Addr) (n c : Nat) (w : World) (R : Rds w A n 1 (fun x : Int => [.int .u8 x]) xs) :
    Calls Tryz.prog 37 #[.slice A n c, .func (.func k) #[] #[]] w fun e w' => e = .returned (.bool (xs.all p)) ∧ Below w.heap.size w w' := by
  have HK := Lib.hid hk; clear hk
  have R1 := R.below (below_alloc1 w (.cells #[.func (.func k) #[] #[]] 56))
  clear R
  go_enter Tryz.func37, Tryz.ntmps37
  go_wp2_with (go_at_call 71; (refine (containsFunc_u8 (k := 72) (cap := #[.pointer (some ⟨w.heap.size, 0, none⟩)]) (p := fun x => !p x) (I := fun w' => w'.cell? ⟨w.heap.size, 0, none⟩ = some (.func (.func k) #[] #[])) (xs := xs) ?_ (enters_of Tryz.func72 rfl (by decide)) ?_ A n c _ R1 ?_).mono ?_); rotate_left 3; rintro e w1 ⟨rfl, hb⟩)
  case refine_1 => exact fun w1 w2 h hb => (hb.cell (World.block_lt_of_cell? _ _ h)).trans h
  case refine_2 => exact fun x w1 hx hc => areAll1_u8 HK.out x _ w1 hc (hf.out x w1 hx)
  case refine_3 => simp [go_sem]
  go_ret
  exact ⟨by simp [any_not], below_then (below_alloc1 w _) (by go_size) hb⟩

end Go.Proofs.YtefipngapgffdaaGreatDoor
