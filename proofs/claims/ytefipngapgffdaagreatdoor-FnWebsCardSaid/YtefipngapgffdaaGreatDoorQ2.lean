/- Contracts: numbers in decimal with a blank between them: impl.joined and spec.l02Text. -/
import Derived.Test.YtefipngapgffdaaGreatDoorQ1
import Derived.Test.YtefipngapgffdaaGreatDoorSt
import Derived.Test.YtefipngapgffdaaGreatDoorC2
import Derived.Lib.Join
namespace Go.Proofs.YtefipngapgffdaaGreatDoor
open Go.RowKit
set_option linter.unusedVariables false
set_option linter.unusedSimpArgs false
/-- A whole number of 64 bits. -/
def I64 (x : Int) : Prop := -9223372036854775808 ≤ x ∧ x ≤ 9223372036854775807
def decs (xs : List Int) : List ByteArray := xs.map dec
theorem decs_len (xs : List Int) : (decs xs).length = xs.length := by simp [decs]
theorem decs_data (xs : List Int) : (decs xs).map (·.data.toList) = xs.map Lib.itoa := by simp [decs, dec]
/-- The first k numbers with a blank between them. -/
def wtTo (xs : List Int) (k : Nat) : ByteArray := ⟨(Lib.join ((xs.map Lib.itoa).take k) [32]).toArray⟩
def wtB (xs : List Int) : ByteArray := ⟨(Lib.join (xs.map Lib.itoa) [32]).toArray⟩
theorem wtTo_all (xs : List Int) : wtTo xs xs.length = wtB xs := by unfold wtTo wtB; rw [List.take_of_length_le (by simp)]
theorem wtTo_0 (xs : List Int) : wtTo xs 0 = ByteArray.empty := by
  unfold wtTo
  rw [List.take_zero, Lib.join_nil]
  rfl
theorem wtTo_1 {xs : List Int} {x : Int} (h : xs[0]? = some x) : wtTo xs 1 = dec x := by
  cases xs with
  | nil => simp at h
  | cons y ys =>
    simp at h
    subst h
    unfold wtTo dec
    rw [List.map_cons, List.take_succ_cons, List.take_zero, Lib.join_one]
theorem wtTo_succ {xs : List Int} {k : Nat} {x : Int} (h : xs[k + 1]? = some x) : wtTo xs (k + 1 + 1) = (wtTo xs (k + 1) ++ ⟨#[32]⟩) ++ dec x := by
  cases xs with
  | nil => simp at h
  | cons y ys =>
    simp at h
    have hm : (ys.map Lib.itoa)[k]? = some (Lib.itoa x) := by rw [List.getElem?_map, h]; rfl
    unfold wtTo dec
    rw [List.map_cons, List.take_succ_cons, List.take_succ_cons, Lib.join_cons, Lib.join_cons, Lib.joinTail_take_succ _ _ _ _ hm]
    apply ByteArray.ext
    simp
theorem wtTo_size {xs : List Int} (hx : ∀ x ∈ xs, I64 x) : ∀ k, k ≤ xs.length → (wtTo xs k).size ≤ 22 * k := by
  intro k
  induction k with
  | zero => intro _; rw [wtTo_0]; show 0 ≤ 0; omega
  | succ k ih =>
    intro hk
    have hg : xs[k]? = some (xs[k]'(by omega)) := List.getElem?_eq_getElem _
    have hb := hx _ (List.getElem_mem (show k < xs.length by omega))
    have hd := dec_len _ hb.1 hb.2
    cases k with
    | zero => rw [wtTo_1 hg]; omega
    | succ k =>
      rw [wtTo_succ hg, ByteArray.size_append, ByteArray.size_append]
      have := ih (by omega)
      have h1 : (⟨#[32]⟩ : ByteArray).size = 1 := rfl
      omega
theorem join_len {xs : List Int} (hx : ∀ x ∈ xs, I64 x) (hn : xs.length ≤ 1048577) : (Lib.join ((decs xs).map (·.data.toList)) [32]).length ≤ 140737488355328 := by
  rw [decs_data]
  have h := wtTo_size hx xs.length (Nat.le_refl _)
  rw [wtTo_all] at h
  have e : (wtB xs).size = (Lib.join (xs.map Lib.itoa) [32]).length := by show (Lib.join (xs.map Lib.itoa) [32]).toArray.size = _; simp
  omega
set_option maxHeartbeats 1000000 in
theorem joined_any (B : Nat) (A : Option Addr) (n c : Nat) (xs : List Int) (w : World) (R : Rds w A n 1 (fun x : Int => [.int .i64 x]) xs) (hx : ∀ x ∈ xs, I64 x) (h1 : 1 ≤ n) (hn : n ≤ 1048577) (hT : Tb B w) (hB : B ≤ w.heap.size) :
    Calls Tryz.prog 34 #[.slice A n c, .string ⟨#[32]⟩] w fun e w' => e = .returned (.string (wtB xs)) ∧ Below w.heap.size w w' := by
  have HXL := Lib.hid R.1
  have HX := Lib.hid hx
  clear hx
  go_enter Tryz.func34, Tryz.ntmps34
  go_wp2_with fail
  go_loopw [5, 10] (fun s v wr => ∃ (k : Nat) (A' : Option Addr) (c' : Nat), k ≤ n ∧ v = .int .i64 k ∧ s = .slice A' k c' ∧ Hid (wr.ownsRow w.heap.size 9 1 (.slice A' k c') k (strs (decs (xs.take k)))) ∧ Hid (Below w.heap.size w wr)) (fun _ v _ => n - (intOf v).toNat)
  case atStart => exact ⟨0, none, 0, by omega, rfl, rfl, Lib.hid (by simpa [decs, strs] using World.ownsRow_nil w w.heap.size 9 1), Lib.hid (Below.refl _ _)⟩
  case round =>
    obtain ⟨j, A', c', hj, rfl, rfl, O, HB⟩ := hrel
    by_cases hlt : j < n
    · obtain ⟨ad, x, rfl, hx, hc⟩ := (R.below HB.out).at1 hlt
      have hxb := HX.out x (List.mem_of_getElem? hx)
      have hT2 := hT.on (HB.out.mono hB)
      have hdec := decimal_any B x wr hxb.1 hxb.2 hT2
      have HD := Lib.hid hdec
      have HS : Hid (strs (decs (xs.take (j + 1))) = strs (decs (xs.take j)) ++ [.string (dec x)]) := Lib.hid (by rw [List.take_add_one, hx]; simp [decs, strs])
      clear hx hdec hT2
      go_wp2_with fail
      refine HD.out.mono ?_
      rintro e w2 ⟨rfl, hb2⟩
      have HB2 := below_then HB.out HB.out.size hb2
      have O2 := own_below O.out hb2
      clear hb2 HD
      go_wp2_with ((at_builtin; refine app_any (w0 := w) w.heap.size (by rfl) _ _ 49 9 (.string ByteArray.empty) 1 16 (by rfl) Tryz.underlying49 infoStr rfl (by omega) (by omega) _ (by rfl) 1 1 [.string (dec x)] (by rfl) (by rfl) (by simp [Value.oneCell']) O2 HB2 HB2.size (by omega) ?_; intro A2 c2 w3 O3 HB3 hg3))
      rw [← HS.out] at O3
      clear hg3
      go_roundw
      case rel => exact ⟨j + 1, A2, c2, by omega, by go_num, rfl, Lib.hid O3, Lib.hid HB3⟩
      case measure => simp [intOf]; omega
    · obtain rfl : j = n := by omega
      have hO := O.out
      rw [List.take_of_length_le (by rw [HXL.out]; exact Nat.le_refl _)] at hO
      obtain ⟨g, L, rfl, hg, hrow, hnc, hcm, hlen⟩ := own_row hO (by omega) (by omega)
      have hgl := hrow.lt
      have hdl : (decs xs).length = j := by rw [decs_len, HXL.out]
      have hjoin := Tryz.strings_Join g 0 c' (decs xs) ⟨#[32]⟩ wr (fun k x hk => by
        rw [hrow.cell, Nat.zero_add, List.getElem?_append_left (by rw [strs, List.length_map]; exact (List.getElem?_eq_some_iff.1 hk).1), strs, List.getElem?_map, hk]; rfl) hgl (by omega) (by omega) (join_len HX.out (by rw [HXL.out]; omega))
      rw [hdl, decs_data] at hjoin
      have HJ := Lib.hid hjoin
      clear hjoin hO hrow hlen hdl O
      have hni : ¬ (j : Int) < (j : Int) := by omega
      go_wp2_with fail
      refine HJ.out.mono ?_
      rintro e w2 ⟨rfl, hb2⟩
      go_wp2_with fail
      go_ret
      exact ⟨rfl, below_then HB.out HB.out.size hb2⟩
end Go.Proofs.YtefipngapgffdaaGreatDoor
