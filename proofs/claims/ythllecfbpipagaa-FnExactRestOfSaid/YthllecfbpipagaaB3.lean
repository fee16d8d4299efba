/- Contracts of areAll, slices.ContainsFunc and slices.IndexFunc over lists of yarns. -/
import Derived.Test.YthllecfbpipagaaY5
import Derived.Test.YthllecfbpipagaaB1
import Derived.Handy
namespace Go.Proofs.Ythllecfbpipagaa
open Go.RowKit
set_option linter.unusedVariables false
set_option linter.unusedSimpArgs false
set_option maxHeartbeats 1000000 in
theorem indexFunc_Y {k : FuncId} {cap : Array Value} {p : Int × Int × Int → Bool} {I : World → Prop} {xs : List (Int × Int × Int)} (hI : ∀ w w', I w → Below w.heap.size w w' → I w')
    (hk : Enters Try.prog k) (hf : Hid (∀ a b_ c_ w, (a, b_, c_) ∈ xs → I w → Calls Try.prog k (#[.agg #[.int .i16 a, .int .i16 b_, .int .i16 c_]] ++ cap) w fun e w' => e = .returned (.bool (p (a, b_, c_))) ∧ Below w.heap.size w w')) 
    (A : Option Addr) (n c : Nat) (w : World) (R : Rds w A n 3 YC xs) (hw : I w) :
    Calls Try.prog 67 #[.slice A n c, .func (.func k) #[] cap] w fun e w' => e = .returned (.int .i64 (idxF p xs)) ∧ Below w.heap.size w w' := by
  have hl := R.1
  have hn := R.2.1
  have HL := Lib.hid hl; clear hl
  have HI := Lib.hid hI; clear hI
  have hk' : ∀ args w, (callFunc k args).run Try.prog w = .ok (.enter k args) w := hk
  clear hk
  go_enter Try.func67, Try.ntmps67
  go_wp2_with fail
  go_loopw [4, 8] (fun r v wr => ∃ k : Nat, k ≤ n ∧ v = .int .i64 k ∧ r = .int .i64 0 ∧ NotYet p xs k ∧ Below w.heap.size w wr ∧ I wr) (fun _ v _ => n - (intOf v).toNat)
  case atStart => exact ⟨0, by omega, rfl, rfl, NotYet.zero _ _, Below.refl _ _, hw⟩
  case round =>
    obtain ⟨j, hj, rfl, rfl, hny, hB, hIr⟩ := hrel
    by_cases hlt : j < n
    · obtain ⟨ad, x, rfl, hx, e0, e1, e2⟩ := (R.below hB).yarn hlt
      have hm := List.mem_of_getElem? hx
      obtain ⟨a, b_, c_⟩ := x
      simp only [] at e0 e1 e2
      have HX := Lib.hid hx; clear hx
      have HM := Lib.hid hm; clear hm
      have HNY := Lib.hid hny; clear hny
      go_wp2_with ((with_reducible refine (hf.out _ _ _ _ HM.out hIr).mono ?_); rintro e w1 ⟨rfl, hb1⟩)
      · go_ret
        exact ⟨by rw [idxF_at HNY.out HX.out (by assumption)]; rfl, below_then hB hB.size hb1⟩
      · go_roundw
        case rel => exact ⟨j + 1, by omega, by go_num, rfl, HNY.out.step HX.out (by simp_all), below_then hB hB.size hb1, HI.out _ _ hIr hb1⟩
        case measure => simp [intOf]; omega
    · go_wp2_with fail
      go_ret
      have hjn : j = xs.length := by rw [HL.out]; omega
      exact ⟨by rw [idxF_none (hjn ▸ hny)]; rfl, hB⟩
theorem containsFunc_Y {k : FuncId} {cap : Array Value} {p : Int × Int × Int → Bool} {I : World → Prop} {xs : List (Int × Int × Int)} (hI : ∀ w w', I w → Below w.heap.size w w' → I w')
    (hk : Enters Try.prog k) (hf : Hid (∀ a b_ c_ w, (a, b_, c_) ∈ xs → I w → Calls Try.prog k (#[.agg #[.int .i16 a, .int .i16 b_, .int .i16 c_]] ++ cap) w fun e w' => e = .returned (.bool (p (a, b_, c_))) ∧ Below w.heap.size w w')) 
    (A : Option Addr) (n c : Nat) (w : World) (R : Rds w A n 3 YC xs) (hw : I w) :
    Calls Try.prog 65 #[.slice A n c, .func (.func k) #[] cap] w fun e w' => e = .returned (.bool (xs.any p)) ∧ Below w.heap.size w w' := by
  have HI := Lib.hid hI; clear hI
  have HK := Lib.hid hk; clear hk
  go_enter Try.func65, Try.ntmps65
  go_wp2_with (go_at_call 67; (with_reducible refine (indexFunc_Y HI.out HK.out hf A n c _ R hw).mono ?_); rintro e w1 ⟨rfl, hb⟩)
  go_ret
  exact ⟨by rw [← idxF_any]; rfl, hb⟩
theorem areAll1_Y {k : FuncId} {p : Int × Int × Int → Bool} (hk : Enters Try.prog k) (a b_ c_ : Int) (b : Nat) (w : World) (hc : w.cell? ⟨b, 0, none⟩ = some (.func (.func k) #[] #[]))
    (hf : Hid (∀ w1, Below w.heap.size w w1 → Calls Try.prog k #[.agg #[.int .i16 a, .int .i16 b_, .int .i16 c_]] w1 fun e w' => e = .returned (.bool (p (a, b_, c_))) ∧ Below w1.heap.size w1 w')) :
    Calls Try.prog 66 #[.agg #[.int .i16 a, .int .i16 b_, .int .i16 c_], .pointer (some ⟨b, 0, none⟩)] w fun e w' => e = .returned (.bool (!p (a, b_, c_))) ∧ Below w.heap.size w w' := by
  have hk' : ∀ args w, (callFunc k args).run Try.prog w = .ok (.enter k args) w := hk
  clear hk
  have hlt := World.block_lt_of_cell? _ _ hc
  have hB := below_alloc1 w (.cells #[.int .i16 a, .int .i16 b_, .int .i16 c_] 35)
  go_enter Try.func66, Try.ntmps66
  go_wp2_with ((with_reducible refine (hf.out _ hB).mono ?_); rintro e w1 ⟨rfl, hb⟩)
  go_ret
  exact ⟨rfl, below_then hB hB.size hb⟩
/-- areAll: whether all elements are as the function k says. -/
theorem areAll_Y {k : FuncId} {p : Int × Int × Int → Bool} {xs : List (Int × Int × Int)} (hk : Enters Try.prog k) (hf : Hid (∀ a b_ c_ w, (a, b_, c_) ∈ xs → Calls Try.prog k #[.agg #[.int .i16 a, .int .i16 b_, .int .i16 c_]] w fun e w' => e = .returned (.bool (p (a, b_, c_))) ∧ Below w.heap.size w w')) 
    (A : Option Addr) (n c : Nat) (w : World) (R : Rds w A n 3 YC xs) :
    Calls Try.prog 63 #[.slice A n c, .func (.func k) #[] #[]] w fun e w' => e = .returned (.bool (xs.all p)) ∧ Below w.heap.size w w' := by
  have HK := Lib.hid hk; clear hk
  have R1 := R.below (below_alloc1 w (.cells #[.func (.func k) #[] #[]] 52))
  clear R
  go_enter Try.func63, Try.ntmps63
  go_wp2_with (go_at_call 65; (refine (containsFunc_Y (k := 66) (cap := #[.pointer (some ⟨w.heap.size, 0, none⟩)]) (p := fun x => !p x) (I := fun w' => w'.cell? ⟨w.heap.size, 0, none⟩ = some (.func (.func k) #[] #[])) (xs := xs) ?_ (enters_of Try.func66 rfl (by decide)) ?_ A n c _ R1 ?_).mono ?_); rotate_left 3; rintro e w1 ⟨rfl, hb⟩)
  case refine_1 => exact fun w1 w2 h hb => (hb.cell (World.block_lt_of_cell? _ _ h)).trans h
  case refine_2 => exact fun a b_ c_ w1 hx hc => areAll1_Y HK.out a b_ c_ _ w1 hc (Lib.hid fun w2 _ => hf.out a b_ c_ w2 hx)
  case refine_3 => simp [go_sem]
  go_ret
  exact ⟨by simp [any_not], below_then (below_alloc1 w _) (by go_size) hb⟩
end Go.Proofs.Ythllecfbpipagaa
