/- Contracts: some passes that are drawn (A2Passes): a text of at most five of the three letters. -/
import Derived.Test.YtefipngapgffdaaGreatDoorV2
import Derived.Test.YtefipngapgffdaaGreatDoorN2
namespace Go.Proofs.YtefipngapgffdaaGreatDoor
open Go.RowKit
set_option linter.unusedVariables false
set_option linter.unusedSimpArgs false
/-- A text of the three letters. -/
def Pss (s : ByteArray) : Prop := ∀ b, b ∈ s.data.toList → b = 99 ∨ b = 102 ∨ b = 114
theorem Pss.empty : Pss ByteArray.empty := fun b h => by cases h
theorem cat_list (s t : ByteArray) : (s ++ t).data.toList = s.data.toList ++ t.data.toList := by simp
theorem Pss.cat {s t : ByteArray} (h : Pss s) (k : Pss t) : Pss (s ++ t) := fun b hb => by
  rw [cat_list] at hb
  rcases List.mem_append.1 hb with hb | hb
  · exact h b hb
  · exact k b hb
theorem Pss.one {x : ByteArray} (h : x ∈ [(⟨#[99]⟩ : ByteArray), ⟨#[102]⟩, ⟨#[114]⟩]) : Pss x ∧ x.size = 1 := by
  simp only [List.mem_cons, List.not_mem_nil, or_false] at h
  rcases h with rfl | rfl | rfl
  · exact ⟨fun b hb => by simp at hb; simp [hb], rfl⟩
  · exact ⟨fun b hb => by simp at hb; simp [hb], rfl⟩
  · exact ⟨fun b hb => by simp at hb; simp [hb], rfl⟩
theorem Pss.take {s : ByteArray} (h : Pss s) (k : Nat) : Pss (s.extract 0 k) := fun b hb => by
  have e : (s.extract 0 k).data.toList = s.data.toList.take k := by simp
  rw [e] at hb
  exact h b (List.mem_of_mem_take hb)
theorem text_any (W0 w : World) (g : Nat) (K : Int) (A : Option Addr) (n c : Nat) (L : List ByteArray) (R : ∀ w', Only g w w' → Rds w' A n 1 (fun s : ByteArray => [.string s]) L) (hn0 : 0 < n) (hn : n ≤ 60000) (h : Src W0 w g K) (hK : K ≤ 1000000) :
    Calls Tryz.prog 32 #[.pointer (some ⟨g, 0, none⟩), .slice A n c] w fun e w' => ∃ x : ByteArray, e = .returned (.string x) ∧ x ∈ L ∧ Src W0 w' g (K + 2) ∧ Only g w w' := by
  go_enter Tryz.func32, Tryz.ntmps32
  go_wp2_with fail
  refine (pick_any W0 _ g K n h hK (by omega)).mono ?_
  rintro e w1 ⟨b, rfl, hb0, hb1, hb2, S1, O1⟩
  obtain ⟨k, rfl⟩ : ∃ k : Nat, b = (k : Int) := ⟨b.toNat, by omega⟩
  have hk : k < n := by
    by_cases h1 : n ≤ 1
    · have := hb2 (by omega); omega
    · have := hb1 (by omega); omega
  obtain ⟨ad, x, rfl, hx, e0⟩ := (R w1 O1).at1 hk
  clear hb1 hb2
  go_wp2_with fail
  go_ret
  exact ⟨x, rfl, List.mem_of_getElem? hx, S1, O1⟩
set_option maxHeartbeats 1000000 in
theorem a2Passes_any (A : Option Addr) (n c : Nat) (xs : List Int) (w : World) (R : Rds w A n 1 (fun x : Int => [.int .u8 x]) xs) (hx : ∀ x ∈ xs, (Lit.int .u8 x).wf = true) :
    Calls Tryz.prog 6 #[.slice A n c] w fun e w' => ∃ s : ByteArray, e = .returned (.string s) ∧ Pss s ∧ s.size ≤ 5 ∧ Below w.heap.size w w' := by
  go_enter Tryz.func6, Tryz.ntmps6
  go_wp2_with fail
  refine (from_any A n c xs w R hx).mono ?_
  rintro e w1 ⟨g, rfl, S⟩
  go_wp2_with fail
  refine (pick_any w _ g 0 6 S (by omega) (by omega)).mono ?_
  rintro e w2 ⟨p, rfl, hp0, hp1, hp2, S2, N2⟩
  have hp6 := hp1 (by omega)
  obtain ⟨N, rfl⟩ : ∃ N : Nat, p = (N : Int) := ⟨p.toNat, by omega⟩
  clear hp1 hp2
  have HS2 := Lib.hid S2
  clear S S2 N2
  go_wp2_with fail
  go_loopw [4, 5] (fun o v wr => ∃ (j : Nat) (s : ByteArray), j ≤ N ∧ v = .int .i64 ((N : Int) - (j : Int)) ∧ o = .string s ∧ Hid (Pss s ∧ s.size = j ∧ Src w wr g (2 + 2 * (j : Int)))) (fun _ v _ => (intOf v).toNat)
  case atStart => exact ⟨0, ByteArray.empty, by omega, by simp, rfl, Lib.hid ⟨Pss.empty, rfl, HS2.out.le (by omega)⟩⟩
  case round =>
    obtain ⟨j, s, hj, rfl, rfl, H⟩ := hrel
    clear HS2
    by_cases hlt : j < N
    · have hpos : 0 < (N : Int) - (j : Int) := by omega
      have hsz : s.size ≤ 5 := by have := H.out.2.1; omega
      obtain ⟨wx, hwx⟩ : ∃ x, x = wr.alloc (.cells #[.string ⟨#[99]⟩, .string ⟨#[102]⟩, .string ⟨#[114]⟩] 9) := ⟨_, rfl⟩
      have R2 := Row.alloc wr [.string ⟨#[99]⟩, .string ⟨#[102]⟩, .string ⟨#[114]⟩] 9
      have hgl := H.out.2.2.lt
      have S1 : Src w wx g (2 + 2 * (j : Int)) := by rw [hwx]; exact H.out.2.2.below (below_alloc1 wr _) hgl
      rw [← hwx] at R2
      have hcall := text_any w wx g (2 + 2 * (j : Int)) (some ⟨wr.heap.size, 0, none⟩) 3 3 [(⟨#[99]⟩ : ByteArray), ⟨#[102]⟩, ⟨#[114]⟩] (fun w' h => own_strs (base := 0) (E := 9) (c := 3) ((h.row R2 (by omega)).own (n := 3) (sz := 1) (Nat.zero_le _) (by unfold maxLen; omega) rfl) (by omega)) (by omega) (by omega) S1 (by omega)
      have HC := Lib.hid hcall
      have HWX := Lib.hid hwx
      clear hcall R2 S1 hwx hgl
      have hv : IntKind.i64.wrap ((N : Int) - (j : Int) - 1) = (N : Int) - (j : Int) - 1 := IntWalk.i64_in _ (by omega)
      go_wp2_with fail
      rw [← HWX.out]
      refine HC.out.mono ?_
      rintro e w5 ⟨x, rfl, hx, S5, N5⟩
      obtain ⟨hx1, hx2⟩ := Pss.one hx
      have hcat : ¬ 9223372036854775807 < s.size + x.size := by omega
      have HN : Hid (Pss (s ++ x) ∧ (s ++ x).size = j + 1 ∧ Src w w5 g (2 + 2 * ((j + 1 : Nat) : Int))) := Lib.hid ⟨H.out.1.cat hx1, by rw [ByteArray.size_append, H.out.2.1, hx2], S5.le (by omega)⟩
      clear hx hx1 hx2 S5 N5 HC HWX
      go_wp2_with fail
      go_roundw
      case rel => exact ⟨j + 1, s ++ x, by omega, by show Value.int .i64 _ = Value.int .i64 _; congr 1; omega, rfl, HN⟩
      case measure => simp [intOf]; omega
    · obtain rfl : j = N := by omega
      have hpos : ¬ 0 < (j : Int) - (j : Int) := by omega
      go_wp2_with fail
      go_ret
      exact ⟨s, rfl, H.out.1, by rw [H.out.2.1]; omega, H.out.2.2.old.1⟩
end Go.Proofs.YtefipngapgffdaaGreatDoor
