/- Contracts of areAll, slices.ContainsFunc and slices.IndexFunc over lists of heaps and of fleeces. -/
import Derived.Test.YtjbaaomodcgdgaaProg
import Derived.Test.YtjbaaomodcgdgaaK
import Derived.Test.YtjbaaomodcgdgaaH4
namespace Go.Proofs.Ytjbaaomodcgdgaa
open Go.RowKit
set_option linter.unusedVariables false
set_option linter.unusedSimpArgs false
theorem Rds.cells {α : Type} {w : World} {A : Option Addr} {n sz : Nat} {C : α → List Value} {xs : List α} (R : Rds w A n sz C xs) {k : Nat} (hk : k < n) :
    ∃ ad x, A = some ad ∧ xs[k]? = some x ∧ x ∈ xs ∧ (∀ v, (C x)[0]? = some v → w.cell? (ad.add (k * sz)) = some v) ∧ ∀ j v, (C x)[j + 1]? = some v → w.cell? ⟨(ad.add (k * sz)).block, (ad.add (k * sz)).off + (j + 1), none⟩ = some v := by
  obtain ⟨ad, h1, h2⟩ := R.2.2 (by omega)
  have hx : xs[k]? = some (xs[k]'(by rw [R.1]; exact hk)) := List.getElem?_eq_getElem _
  refine ⟨ad, _, h1, hx, List.mem_of_getElem? hx, fun v hv => h2 k _ hx 0 v hv, fun j v hv => ?_⟩
  have h := h2 k _ hx (j + 1) v hv
  rw [← Addr.add_add] at h
  exact h
/-- A heap as a list of cells, a fleece likewise. -/
def HC (x : List Int) : List Value := nums .i32 x
set_option maxHeartbeats 1000000 in
theorem indexFunc_H {k : FuncId} {cap : Array Value} {p : List Int → Bool} {I : World → Prop} {xs : List (List Int)} (hI : ∀ w w', I w → Below w.heap.size w w' → I w')
    (hk : Enters Try.prog k) (hf : Hid (∀ a0 a1 a2 a3 a4 a5 a6 a7 w, [a0, a1, a2, a3, a4, a5, a6, a7] ∈ xs → I w → Calls Try.prog k (#[.agg #[.int .i32 a0, .int .i32 a1, .int .i32 a2, .int .i32 a3, .int .i32 a4, .int .i32 a5, .int .i32 a6, .int .i32 a7]] ++ cap) w fun e w' => e = .returned (.bool (p [a0, a1, a2, a3, a4, a5, a6, a7])) ∧ Below w.heap.size w w')) (h8 : Hid (∀ x ∈ xs, x.length = 8))
    (A : Option Addr) (n c : Nat) (w : World) (R : Rds w A n 8 HC xs) (hw : I w) :
    Calls Try.prog 83 #[.slice A n c, .func (.func k) #[] cap] w fun e w' => e = .returned (.int .i64 (idxF p xs)) ∧ Below w.heap.size w w' := by
  have hl := R.1
  have hn := R.2.1
  have HL := Lib.hid hl; clear hl
  have HI := Lib.hid hI; clear hI
  have hk' : ∀ args w, (callFunc k args).run Try.prog w = .ok (.enter k args) w := hk
  clear hk
  go_enter Try.func83, Try.ntmps83
  go_wp2_with fail
  go_loopw [4, 8] (fun r v wr => ∃ k : Nat, k ≤ n ∧ v = .int .i64 k ∧ r = .int .i64 0 ∧ NotYet p xs k ∧ Below w.heap.size w wr ∧ I wr) (fun _ v _ => n - (intOf v).toNat)
  case atStart => exact ⟨0, by omega, rfl, rfl, NotYet.zero _ _, Below.refl _ _, hw⟩
  case round =>
    obtain ⟨j, hj, rfl, rfl, hny, hB, hIr⟩ := hrel
    by_cases hlt : j < n
    · obtain ⟨ad, x, rfl, hx, hm, hc0, hc⟩ := (R.below hB).cells hlt
      obtain ⟨a0, a1, a2, a3, a4, a5, a6, a7, rfl⟩ := heap8 (h8.out x hm)
      have e0 : wr.cell? (ad.add (j * 8)) = some (.int .i32 a0) := hc0 _ rfl
      have e1 : wr.cell? ⟨(ad.add (j * 8)).block, (ad.add (j * 8)).off + 1, none⟩ = some (.int .i32 a1) := hc 0 _ rfl
      have e2 : wr.cell? ⟨(ad.add (j * 8)).block, (ad.add (j * 8)).off + 2, none⟩ = some (.int .i32 a2) := hc 1 _ rfl
      have e3 : wr.cell? ⟨(ad.add (j * 8)).block, (ad.add (j * 8)).off + 3, none⟩ = some (.int .i32 a3) := hc 2 _ rfl
      have e4 : wr.cell? ⟨(ad.add (j * 8)).block, (ad.add (j * 8)).off + 4, none⟩ = some (.int .i32 a4) := hc 3 _ rfl
      have e5 : wr.cell? ⟨(ad.add (j * 8)).block, (ad.add (j * 8)).off + 5, none⟩ = some (.int .i32 a5) := hc 4 _ rfl
      have e6 : wr.cell? ⟨(ad.add (j * 8)).block, (ad.add (j * 8)).off + 6, none⟩ = some (.int .i32 a6) := hc 5 _ rfl
      have e7 : wr.cell? ⟨(ad.add (j * 8)).block, (ad.add (j * 8)).off + 7, none⟩ = some (.int .i32 a7) := hc 6 _ rfl
      clear hc hc0
      have HX := Lib.hid hx; clear hx
      have HM := Lib.hid hm; clear hm
      have HNY := Lib.hid hny; clear hny
      go_wp2_with ((with_reducible refine (hf.out _ _ _ _ _ _ _ _ _ HM.out hIr).mono ?_); rintro e w1 ⟨rfl, hb1⟩)
      · go_ret
        exact ⟨by rw [idxF_at HNY.out HX.out (by assumption)]; rfl, below_then hB hB.size hb1⟩
      · go_roundw
        case rel => exact ⟨j + 1, by omega, by go_num, rfl, HNY.out.step HX.out (by simp_all), below_then hB hB.size hb1, HI.out _ _ hIr hb1⟩
        case measure => simp [intOf]; omega
    · go_wp2_with fail
      go_ret
      have hjn : j = xs.length := by rw [HL.out]; omega
      exact ⟨by rw [idxF_none (hjn ▸ hny)]; rfl, hB⟩
theorem containsFunc_H {k : FuncId} {cap : Array Value} {p : List Int → Bool} {I : World → Prop} {xs : List (List Int)} (hI : ∀ w w', I w → Below w.heap.size w w' → I w')
    (hk : Enters Try.prog k) (hf : Hid (∀ a0 a1 a2 a3 a4 a5 a6 a7 w, [a0, a1, a2, a3, a4, a5, a6, a7] ∈ xs → I w → Calls Try.prog k (#[.agg #[.int .i32 a0, .int .i32 a1, .int .i32 a2, .int .i32 a3, .int .i32 a4, .int .i32 a5, .int .i32 a6, .int .i32 a7]] ++ cap) w fun e w' => e = .returned (.bool (p [a0, a1, a2, a3, a4, a5, a6, a7])) ∧ Below w.heap.size w w')) (h8 : Hid (∀ x ∈ xs, x.length = 8))
    (A : Option Addr) (n c : Nat) (w : World) (R : Rds w A n 8 HC xs) (hw : I w) :
    Calls Try.prog 72 #[.slice A n c, .func (.func k) #[] cap] w fun e w' => e = .returned (.bool (xs.any p)) ∧ Below w.heap.size w w' := by
  have HI := Lib.hid hI; clear hI
  have HK := Lib.hid hk; clear hk
  go_enter Try.func72, Try.ntmps72
  go_wp2_with (go_at_call 83; (with_reducible refine (indexFunc_H HI.out HK.out hf h8 A n c _ R hw).mono ?_); rintro e w1 ⟨rfl, hb⟩)
  go_ret
  exact ⟨by rw [← idxF_any]; rfl, hb⟩
theorem areAll1_H {k : FuncId} {p : List Int → Bool} (hk : Enters Try.prog k) (a0 a1 a2 a3 a4 a5 a6 a7 : Int) (b : Nat) (w : World) (hc : w.cell? ⟨b, 0, none⟩ = some (.func (.func k) #[] #[]))
    (hf : Hid (∀ w1, Below w.heap.size w w1 → Calls Try.prog k #[.agg #[.int .i32 a0, .int .i32 a1, .int .i32 a2, .int .i32 a3, .int .i32 a4, .int .i32 a5, .int .i32 a6, .int .i32 a7]] w1 fun e w' => e = .returned (.bool (p [a0, a1, a2, a3, a4, a5, a6, a7])) ∧ Below w1.heap.size w1 w')) :
    Calls Try.prog 73 #[.agg #[.int .i32 a0, .int .i32 a1, .int .i32 a2, .int .i32 a3, .int .i32 a4, .int .i32 a5, .int .i32 a6, .int .i32 a7], .pointer (some ⟨b, 0, none⟩)] w fun e w' => e = .returned (.bool (!p [a0, a1, a2, a3, a4, a5, a6, a7])) ∧ Below w.heap.size w w' := by
  have hk' : ∀ args w, (callFunc k args).run Try.prog w = .ok (.enter k args) w := hk
  clear hk
  have hlt := World.block_lt_of_cell? _ _ hc
  have hB := below_alloc1 w (.cells #[.int .i32 a0, .int .i32 a1, .int .i32 a2, .int .i32 a3, .int .i32 a4, .int .i32 a5, .int .i32 a6, .int .i32 a7] 27)
  go_enter Try.func73, Try.ntmps73
  go_wp2_with ((with_reducible refine (hf.out _ hB).mono ?_); rintro e w1 ⟨rfl, hb⟩)
  go_ret
  exact ⟨rfl, below_then hB hB.size hb⟩
/-- areAll: whether all elements are as the function k says. -/
theorem areAll_H {k : FuncId} {p : List Int → Bool} {xs : List (List Int)} (hk : Enters Try.prog k) (hf : Hid (∀ a0 a1 a2 a3 a4 a5 a6 a7 w, [a0, a1, a2, a3, a4, a5, a6, a7] ∈ xs → Calls Try.prog k #[.agg #[.int .i32 a0, .int .i32 a1, .int .i32 a2, .int .i32 a3, .int .i32 a4, .int .i32 a5, .int .i32 a6, .int .i32 a7]] w fun e w' => e = .returned (.bool (p [a0, a1, a2, a3, a4, a5, a6, a7])) ∧ Below w.heap.size w w')) (h8 : Hid (∀ x ∈ xs, x.length = 8))
    (A : Option Addr) (n c : Nat) (w : World) (R : Rds w A n 8 HC xs) :
    Calls Try.prog 38 #[.slice A n c, .func (.func k) #[] #[]] w fun e w' => e = .returned (.bool (xs.all p)) ∧ Below w.heap.size w w' := by
  have HK := Lib.hid hk; clear hk
  have R1 := R.below (below_alloc1 w (.cells #[.func (.func k) #[] #[]] 66))
  clear R
  go_enter Try.func38, Try.ntmps38
  go_wp2_with (go_at_call 72; (refine (containsFunc_H (k := 73) (cap := #[.pointer (some ⟨w.heap.size, 0, none⟩)]) (p := fun x => !p x) (I := fun w' => w'.cell? ⟨w.heap.size, 0, none⟩ = some (.func (.func k) #[] #[])) (xs := xs) ?_ (enters_of Try.func73 rfl (by decide)) ?_ h8 A n c _ R1 ?_).mono ?_); rotate_left 3; rintro e w1 ⟨rfl, hb⟩)
  case refine_1 => exact fun w1 w2 h hb => (hb.cell (World.block_lt_of_cell? _ _ h)).trans h
  case refine_2 => exact fun a0 a1 a2 a3 a4 a5 a6 a7 w1 hx hc => areAll1_H HK.out a0 a1 a2 a3 a4 a5 a6 a7 _ w1 hc (Lib.hid fun w2 _ => hf.out a0 a1 a2 a3 a4 a5 a6 a7 w2 hx)
  case refine_3 => simp [go_sem]
  go_ret
  exact ⟨by simp [any_not], below_then (below_alloc1 w _) (by go_size) hb⟩
end Go.Proofs.Ytjbaaomodcgdgaa
