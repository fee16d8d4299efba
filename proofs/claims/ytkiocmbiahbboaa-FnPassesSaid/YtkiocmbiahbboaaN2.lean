/- Contracts: impl.texts, with any function that is called with each text. -/
import Derived.Test.YtkiocmbiahbboaaN1
import Derived.Test.YtkiocmbiahbboaaKp
import Derived.Test.YtkiocmbiahbboaaSt
namespace Go.Proofs.Ytkiocmbiahbboaa
open Go.RowKit
set_option linter.unusedVariables false
set_option linter.unusedSimpArgs false
/-- The texts of ranks a, a + 1, .., k of them. -/
def lvl (a k : Nat) : List ByteArray := (List.range k).map fun i => rkS (a + i)
theorem lvl_length (a k : Nat) : (lvl a k).length = k := by simp [lvl]
theorem lvl_get {a k i : Nat} (h : i < k) : (lvl a k)[i]? = some (rkS (a + i)) := by simp [lvl, h]
theorem lvl_three (a r j : Nat) (h : 3 * r + 1 = a + 3 * j) : strs (lvl a (3 * j)) ++ [.string ((rkS r).push 99), .string ((rkS r).push 102), .string ((rkS r).push 114)] = strs (lvl a (3 * (j + 1))) := by
  have e0 := rkS_child r 0 (by omega)
  have e1 := rkS_child r 1 (by omega)
  have e2 := rkS_child r 2 (by omega)
  have f0 : psB 0 = 99 := rfl
  have f1 : psB 1 = 102 := rfl
  have f2 : psB 2 = 114 := rfl
  rw [f0] at e0; rw [f1] at e1; rw [f2] at e2
  rw [← e0, ← e1, ← e2]
  unfold lvl
  rw [show 3 * (j + 1) = ((3 * j + 1) + 1) + 1 by omega, List.range_succ, List.range_succ, List.range_succ]
  simp only [strs, List.map_append, List.map_cons, List.map_nil, List.append_assoc, List.singleton_append]
  rw [show a + 3 * j = 3 * r + 1 + 0 by omega, show a + (3 * j + 1) = 3 * r + 1 + 1 by omega, show a + (3 * j + 1 + 1) = 3 * r + 1 + 2 by omega]
  rfl
def lo : Nat → Nat
  | 0 => 0
  | k + 1 => 3 * lo k + 1
theorem lo_tot (k : Nat) : lo (k + 1) = tot k := by
  induction k with
  | zero => rfl
  | succ k ih => rw [lo, ih]; rfl
theorem lo_lt (k : Nat) : lo k < lo (k + 1) := by rw [lo]; omega
/-- Where the texts up to rank R have been tried. -/
def TxEnd (I : Nat → World → Prop) (stop : Nat → Bool) (T : Nat) (w : World) : Prop :=
  (I T w ∧ ∀ q, q < T → stop q = false) ∨ ∃ r, r < T ∧ I (r + 1) w ∧ stop r = true ∧ ∀ q, q < r → stop q = false
set_option maxHeartbeats 4000000 in
theorem texts_any {f : FuncId} {caps : Array Value} {I : Nat → World → Prop} {stop : Nat → Bool} {S : Nat → Prop} (m : Nat) (hm : m ≤ 6) (w : World) (hk : ∀ args w, (callFunc f args).run Try.prog w = .ok (.enter f args) w)
    (hS : Hid (∀ b, S b → b < w.heap.size)) (hI0 : Hid (I 0 w)) (hI : Hid (∀ r w1 w2, I r w1 → Keeps (fun b => w.heap.size ≤ b) w1 w2 → I r w2))
    (hf : Hid (∀ r w1, r < tot m → I r w1 → w.heap.size ≤ w1.heap.size → (∀ q, q < r → stop q = false) → Calls Try.prog f (#[.string (rkS r)] ++ caps) w1 fun e w2 => e = .returned (.bool (stop r)) ∧ I (r + 1) w2 ∧ Keeps S w1 w2)) :
    Calls Try.prog 26 #[.int .i64 m, .func (.func f) #[] caps] w fun e w' => e = .returned (.tuple #[]) ∧ TxEnd I stop (tot m) w' ∧ Keeps S w w' := by
  have hz := tot_6 hm
  go_enter Try.func26, Try.ntmps26
  go_wp2_with fail
  go_loopw [4, 5] (fun a v wr => ∃ (k : Nat) (A : Option Addr) (c : Nat), k ≤ m + 1 ∧ v = .int .i64 k ∧ a = .slice A (2 * lo k + 1) c ∧ Hid (wr.ownsRow w.heap.size 9 1 (.slice A (2 * lo k + 1) c) (2 * lo k + 1) (strs (lvl (lo k) (2 * lo k + 1)))) ∧ Hid (Keeps S w wr ∧ I (lo k) wr ∧ ∀ q, q < lo k → stop q = false)) (fun _ v _ => m + 1 - (intOf v).toNat)
  case atStart =>
    refine ⟨0, _, _, by omega, rfl, rfl, Lib.hid ?_, Lib.hid ⟨Keeps.below (below_alloc1 w _), hI.out 0 w _ hI0.out (Keeps.ofBelow (below_alloc1 w _)), by intro q hq; simp [lo] at hq⟩⟩
    exact (Row.alloc w [.string (rkS 0)] 9).own (Nat.le_refl _) (by simp [maxLen, lo]) (by simp [lo])
  case round =>
    obtain ⟨k, A, c, hk1, rfl, rfl, O, HK⟩ := hrel
    by_cases hlt : k ≤ m
    · have hki : (k : Int) ≤ (m : Int) := by omega
      have hlo : lo (k + 1) = 3 * lo k + 1 := rfl
      have hto : tot k ≤ tot m := tot_mono hlt
      rw [← lo_tot k, hlo] at hto
      have hob := own_base O.out
      have RA := Lib.hid (own_strs O.out (by omega))
      have hkeep := HK.out.1.size
      have HKK := Lib.hid hk
      clear O
      have hA : Hid (∀ ad, A = some ad → w.heap.size ≤ ad.block ∧ ad.block < wr.heap.size) := Lib.hid (by rintro ad rfl; exact hob _ rfl)
      clear hob
      obtain ⟨Z, hZ⟩ : ∃ Z, Z = wr.heap.size := ⟨_, rfl⟩
      rw [← hZ] at hA hkeep
      have hZ2 : Z ≤ wr.heap.size := by omega
      have HZ := Lib.hid hZ; clear hZ
      obtain ⟨L, hL⟩ : ∃ L, lo k = L := ⟨_, rfl⟩
      rw [hL] at hlo hto RA HK ⊢
      go_wp2_with fail
      go_loopw [6, 17] (fun nx v wx => ∃ (j : Nat) (A' : Option Addr) (c' : Nat), j ≤ 2 * L + 1 ∧ v = .int .i64 j ∧ nx = .slice A' (3 * j) c' ∧ Hid (wx.ownsRow Z 9 1 (.slice A' (3 * j) c') (3 * j) (strs (lvl (3 * L + 1) (3 * j)))) ∧ Hid (Rds wx A (2 * L + 1) 1 (fun s : ByteArray => [.string s]) (lvl L (2 * L + 1))) ∧ Hid (Keeps S w wx ∧ I (L + j) wx ∧ (∀ q, q < L + j → stop q = false) ∧ Z ≤ wx.heap.size)) (fun _ v _ => 2 * L + 1 - (intOf v).toNat)
      case atStart => exact ⟨0, none, 0, by omega, rfl, rfl, Lib.hid (own_nil _ _ _ _), RA, Lib.hid ⟨HK.out.1, HK.out.2.1, HK.out.2.2, hZ2⟩⟩
      case round =>
        obtain ⟨j, A', c', hj, rfl, rfl, O, RN, HX⟩ := hrel
        clear RA
        by_cases hj1 : j < 2 * L + 1
        · have hj2 : (j : Int) < ((2 * L + 1 : Nat) : Int) := by omega
          obtain ⟨ad, x, rfl, hx, hc⟩ := RN.out.at1 hj1
          rw [lvl_get hj1] at hx
          cases hx
          have hLj : L + j < tot m := by omega
          have hZw : w.heap.size ≤ wr.heap.size := by have := HX.out.2.2.2; omega
          have hcall := hf.out (L + j) wr hLj HX.out.2.1 hZw HX.out.2.2.1
          have HC := Lib.hid hcall; clear hcall
          have hk := HKK.out
          have hsz : (rkS (L + j)).size + 1 ≤ 7 := by have h6 := (rkD_le m (L + j)).2 hLj; rw [rkS_size]; omega
          clear hZ2
          go_wp2_with fail
          refine HC.out.mono ?_
          rintro e w2 ⟨rfl, hI2, hk2⟩
          have hsS : ∀ b, Z ≤ b → ¬ S b := fun b h1 h2 => by have := hS.out b h2; omega
          have O2 := hk2.own O.out hsS
          have hZ3 : Z ≤ w2.heap.size := Nat.le_trans HX.out.2.2.2 hk2.size
          have R2 := Lib.hid (hk2.rds RN.out (fun ad' h h2 => by have := hA.out ad' h; have := hS.out _ h2; omega))
          have HK2 := Lib.hid (HX.out.1.trans (hk2.mono (fun b hb => hb)))
          have HI2 := Lib.hid hI2
          have HP := Lib.hid HX.out.2.2.1
          clear hI2 hk2 O RN HX HC hk hc hZw
          cases hst : stop (L + j)
          · have HS := Lib.hid hst; clear hst
            go_wp2_with ((at_builtin; go_loud (refine app_any (w0 := w2) Z (by rfl) _ _ 57 9 (.string ByteArray.empty) 1 16 (by rfl) Try.underlying57 infoStr rfl (by omega) (by omega) _ (by rfl) 3 3 [.string (rkS (L + j) ++ (⟨#[99]⟩ : ByteArray)), .string (rkS (L + j) ++ (⟨#[102]⟩ : ByteArray)), .string (rkS (L + j) ++ (⟨#[114]⟩ : ByteArray))] (by rfl) (by rfl) (by simp [Value.oneCell']) O2 (Below.refl _ _) hZ3 (by omega) ?_); intro A2 c2 w3 O3 HB3 hg3))
            rw [str_cat, str_cat, str_cat, lvl_three (3 * L + 1) (L + j) j (by omega), show 3 * j + 3 = 3 * (j + 1) by omega] at O3
            have KB := Keeps.ofBelow HB3
            have HH := Lib.hid (And.intro (HK2.out.thenB HB3 hkeep) (And.intro (hI.out _ _ _ HI2.out (KB.mono (fun b hb => by omega))) (And.intro (show ∀ q, q < L + (j + 1) → stop q = false by
              intro q hq
              rcases Nat.lt_or_ge q (L + j) with h | h
              · exact HP.out q h
              · obtain rfl : q = L + j := by omega
                exact HS.out) (Nat.le_trans hZ3 KB.size))))
            have R3 := Lib.hid (KB.rds R2.out (fun ad' h h2 => by have := hA.out ad' h; omega))
            clear HB3 hg3 KB
            go_roundw
            case rel => exact ⟨j + 1, A2, c2, by omega, by go_num, by rw [show 3 * j + 3 = 3 * (j + 1) by omega], Lib.hid O3, R3, HH⟩
            case measure => simp [intOf]; omega
          · have HS := Lib.hid hst; clear hst
            go_wp2_with fail
            first | (first | ((try simp only [Exit.inBlock, Exit.then]); refine bodyPost_end (results_none rfl _ _ _) rfl ?_) | ((try simp only [Exit.inBlock, Exit.then]); refine bodyPost_ret (results_none rfl _ _ _) rfl ?_))
            exact ⟨rfl, .inr ⟨L + j, hLj, HI2.out, HS.out, HP.out⟩, HK2.out⟩
        · obtain rfl : j = 2 * L + 1 := by omega
          have O2 : Hid (wr.ownsRow w.heap.size 9 1 (.slice A' (2 * lo (k + 1) + 1) c') (2 * lo (k + 1) + 1) (strs (lvl (lo (k + 1)) (2 * lo (k + 1) + 1)))) := Lib.hid (by
            rw [hlo, show 2 * (3 * L + 1) + 1 = 3 * (2 * L + 1) by omega]
            exact own_lower O.out hkeep)
          have H2 : Hid (Keeps S w wr ∧ I (lo (k + 1)) wr ∧ ∀ q, q < lo (k + 1) → stop q = false) := Lib.hid (by
            rw [hlo, show 3 * L + 1 = L + (2 * L + 1) by omega]
            exact ⟨HX.out.1, HX.out.2.1, HX.out.2.2.1⟩)
          clear O RN HX hj hj1
          have hj3 : ¬ ((2 * L + 1 : Nat) : Int) < ((2 * L + 1 : Nat) : Int) := by omega
          go_wp2_with fail
          go_roundw
          case rel => exact ⟨k + 1, A', c', by omega, by go_num, by rw [hlo, show 2 * (3 * L + 1) + 1 = 3 * (2 * L + 1) by omega], O2, H2⟩
          case measure => simp [intOf]; omega
    · obtain rfl : k = m + 1 := by omega
      have hki : ¬ ((m + 1 : Nat) : Int) ≤ (m : Int) := by omega
      go_wp2_with fail
      first | (first | ((try simp only [Exit.inBlock, Exit.then]); refine bodyPost_end (results_none rfl _ _ _) rfl ?_) | ((try simp only [Exit.inBlock, Exit.then]); refine bodyPost_ret (results_none rfl _ _ _) rfl ?_))
      have h := HK.out
      rw [lo_tot] at h
      exact ⟨rfl, .inl ⟨h.2.1, h.2.2⟩, h.1⟩
end Go.Proofs.Ytkiocmbiahbboaa
