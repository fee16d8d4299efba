/- Contracts: spec.l01Number and spec.l01Split. -/
import Derived.Test.YtjjdmabhmpkijaaDoorO1
import Derived.Test.YtjjdmabhmpkijaaDoorSt
namespace Go.Proofs.YtjjdmabhmpkijaaDoor
open Go.RowKit
set_option linter.unusedVariables false
set_option linter.unusedSimpArgs false
def nok (w : List UInt8) : Bool := (num w).isSome
def nvv (w : List UInt8) : Int := (((num w).getD 0 : Nat) : Int)
theorem nok_some {w : List UInt8} {n : Nat} (h : num w = some n) : nok w = true ∧ nvv w = n := by unfold nok nvv; rw [h]; exact ⟨rfl, rfl⟩
theorem nok_none {w : List UInt8} (h : num w = none) : nok w = false ∧ nvv w = 0 := by unfold nok nvv; rw [h]; exact ⟨rfl, rfl⟩
theorem nvv_bd (w : List UInt8) : 0 ≤ nvv w ∧ nvv w < 1000000000 := by
  unfold nvv
  cases h : num w with
  | none => simp
  | some n => have := (num_some h).2; simp; omega
theorem str_len (s : ByteArray) : s.data.toList.length = s.size := by rw [Array.length_toList]; rfl
theorem str_drop (s : ByteArray) {k : Nat} (h : k < s.size) : s.data.toList.drop k = (s[k]'h) :: s.data.toList.drop (k + 1) := by
  rw [List.drop_eq_getElem_cons (by rw [str_len]; exact h)]
  rfl
theorem str_nil {s : ByteArray} (h : s.size = 0) : s = ⟨#[]⟩ := by
  apply ByteArray.ext
  have : s.data.size = 0 := h
  exact Array.eq_empty_of_size_eq_zero this
theorem l01Number_any (s : ByteArray) (w : World) (hs : s.size ≤ 4611686018427387904) :
    Calls Tryd.prog 33 #[.string s] w fun e w' => e = .returned (.tuple #[.int .i64 (nvv s.data.toList), .bool (nok s.data.toList)]) ∧ w' = w := by
  have HL := Lib.hid (str_len s)
  by_cases h0 : s.size = 0
  · obtain rfl := str_nil h0
    have e := nok_none (w := []) (by unfold num; rw [if_pos (.inl rfl)])
    have E := Lib.hid e
    clear e HL h0 hs
    go_enter Tryd.func33, Tryd.ntmps33
    go_wp2_with fail
    go_ret2
    exact ⟨by show _ = Ending.returned (.tuple #[.int .i64 (nvv []), .bool (nok [])]); rw [E.out.1, E.out.2]; rfl, rfl⟩
  have hne : s.toList.isEmpty = false := by rw [ByteArray.toList_eq]; cases hl : s.data.toList with | nil => exact absurd (by rw [← str_len, hl]; rfl) h0 | cons _ _ => rfl
  by_cases h9 : 9 < s.size
  · have e := nok_none (w := s.data.toList) (by unfold num; rw [if_pos (.inr (.inl (by rw [str_len]; exact h9)))])
    have E := Lib.hid e
    have h9i : (9 : Int) < (s.size : Int) := by omega
    clear e HL h0
    go_enter Tryd.func33, Tryd.ntmps33
    go_wp2_with fail
    go_ret2
    exact ⟨by rw [E.out.1, E.out.2]; rfl, rfl⟩
  have hp : 0 < s.size := by omega
  have h9i : ¬ (9 : Int) < (s.size : Int) := by omega
  have hd0 := str_drop s hp
  rw [List.drop_zero] at hd0
  obtain ⟨b, hb⟩ : ∃ b, s[0]'hp = b := ⟨_, rfl⟩
  rw [hb] at hd0
  have HB := Lib.hid hb
  by_cases hz : b = 48 ∧ 1 < s.size
  · have e := nok_none (w := s.data.toList) (by unfold num; rw [if_pos (.inr (.inr ⟨by rw [hd0, hz.1]; rfl, by rw [str_len]; exact hz.2⟩))])
    have E := Lib.hid e
    have h1i : (1 : Int) < (s.size : Int) := by omega
    have hb48 : (((s[0]'hp).toNat : Int) == 48) = true := by rw [hb, hz.1]; rfl
    clear e HL h0 hd0 hb
    go_enter Tryd.func33, Tryd.ntmps33
    go_wp2_with fail
    go_ret2
    exact ⟨by rw [E.out.1, E.out.2]; rfl, rfl⟩
  have hnum : num s.data.toList = nv 0 s.data.toList := by
    unfold num
    rw [if_neg]
    rintro (e | e | ⟨e1, e2⟩)
    · rw [hd0] at e; cases e
    · rw [str_len] at e; exact h9 e
    · rw [hd0] at e1
      rw [str_len] at e2
      exact hz ⟨Option.some.inj e1, e2⟩
  have HN := Lib.hid hnum
  clear hnum
  obtain ⟨z48, hz48⟩ : ∃ z, (((s[0]'hp).toNat : Int) == 48) = z := ⟨_, rfl⟩
  have hzz : z48 = true → ¬ (1 : Int) < (s.size : Int) := by
    intro e h1
    rw [e, hb, beq_iff_eq] at hz48
    refine hz ⟨UInt8.toNat_inj.1 ?_, by omega⟩
    have h48 : (48 : UInt8).toNat = 48 := rfl
    omega
  clear hz hd0 hb HB
  have hwalk : Calls Tryd.prog 33 #[.string s] w fun e w' => e = .returned (.tuple #[.int .i64 (nvv s.data.toList), .bool (nok s.data.toList)]) ∧ w' = w := by
    cases z48
    all_goals
      first | have h1i := hzz rfl | skip
      clear hzz
      go_enter Tryd.func33, Tryd.ntmps33
      go_wp2_with fail
      go_loopw [4, 5] (fun a v wr => ∃ k m : Nat, k ≤ s.size ∧ v = .int .i64 k ∧ a = .int .i64 m ∧ m < 10 ^ k ∧ Hid (nv 0 s.data.toList = nv m (s.data.toList.drop k)) ∧ wr = w) (fun _ v _ => s.size - (intOf v).toNat)
      case atStart => exact ⟨0, 0, by omega, rfl, rfl, by decide, Lib.hid rfl, rfl⟩
      case round =>
        obtain ⟨k, m, hk, rfl, rfl, hm, H, rfl⟩ := hrel
        have hmb : m < 10 ^ 9 := Nat.lt_of_lt_of_le hm (Nat.pow_le_pow_right (by omega) (by omega))
        have hmm : m ≤ 1000000000 := by omega
        have HM := Lib.hid hm
        clear hm hmb
        by_cases hlt : k < s.size
        · have hki : (k : Int) < (s.size : Int) := by omega
          have hd := str_drop s hlt
          rw [hd] at H
          obtain ⟨d, hd2⟩ : ∃ d : Nat, (s[k]'hlt).toNat = d := ⟨_, rfl⟩
          have hd3 : d < 256 := by rw [← hd2]; exact (s[k]'hlt).toNat_lt
          have HD2 := Lib.hid hd2
          by_cases hdig : 48 ≤ d ∧ d ≤ 57
          · have hn := nv_hit (c := s[k]'hlt) (by rw [hd2]; exact hdig) m (s.data.toList.drop (k + 1))
            rw [hd2] at hn
            have H2 := Lib.hid (H.out.trans hn)
            clear H hd hn hd2
            obtain ⟨q, rfl⟩ : ∃ q, d = 48 + q := ⟨d - 48, by omega⟩
            have hq : q ≤ 9 := by omega
            have e1 : ¬ ((48 + q : Nat) : Int) < 48 := by omega
            have e2 : ¬ (57 : Int) < ((48 + q : Nat) : Int) := by omega
            have v1 : IntKind.i64.wrap (10 * (m : Int)) = 10 * (m : Int) := IntWalk.i64_in _ (by omega)
            have v2 : IntKind.u8.wrap (((48 + q : Nat) : Int) - 48) = (q : Int) := by rw [IntKind.wrap_u8]; omega
            have v3 : IntKind.i64.wrap (q : Int) = (q : Int) := IntWalk.i64_in _ (by omega)
            have v4 : IntKind.i64.wrap (10 * (m : Int) + (q : Int)) = 10 * (m : Int) + (q : Int) := IntWalk.i64_in _ (by omega)
            have hsk : ((s[k]'hlt).toNat : Int) = ((48 + q : Nat) : Int) := by rw [HD2.out]
            go_wp2_with fail
            go_roundw
            case rel => exact ⟨k + 1, 10 * m + q, by omega, by go_num, by push_cast; congr 1; omega, by have := HM.out; rw [Nat.pow_succ]; omega, Lib.hid (by rw [H2.out, show 10 * m + (48 + q - 48) = 10 * m + q by omega]), by first | rfl | trivial⟩
            case measure => simp [intOf]; omega
          · have hn := nv_miss (c := s[k]'hlt) (by rw [hd2]; exact hdig) m (s.data.toList.drop (k + 1))
            have E := Lib.hid (nok_none (HN.out.trans (H.out.trans hn)))
            have hsk : ((s[k]'hlt).toNat : Int) = (d : Int) := by rw [HD2.out]
            clear H hd hn hd2
            by_cases hlo : d < 48
            · have e1 : (d : Int) < 48 := by omega
              go_wp2_with fail
              go_ret2
              exact ⟨by rw [E.out.1, E.out.2]; rfl, rfl⟩
            · have e1 : ¬ (d : Int) < 48 := by omega
              have e2 : (57 : Int) < (d : Int) := by omega
              go_wp2_with fail
              go_ret2
              exact ⟨by rw [E.out.1, E.out.2]; rfl, rfl⟩
        · obtain rfl : k = s.size := by omega
          have E := Lib.hid (nok_some (HN.out.trans (H.out.trans (by rw [List.drop_of_length_le (by rw [str_len]; exact Nat.le_refl _)]; rfl))))
          have hni : ¬ (s.size : Int) < (s.size : Int) := by omega
          go_wp2_with fail
          go_ret2
          exact ⟨by rw [E.out.1, E.out.2]; rfl, rfl⟩
  exact hwalk
/-- A text of these bytes. -/
def btx (l : List UInt8) : ByteArray := ⟨l.toArray⟩
theorem btx_data (s : ByteArray) : btx s.data.toList = s := by apply ByteArray.ext; simp [btx]
theorem btx_of {s : ByteArray} {l : List UInt8} (h : s.data.toList = l) : s = btx l := by rw [← h, btx_data]
theorem own_empty0 (W : World) (e : TypeId) (size : Nat) : (W.alloc (.cells #[] e)).ownsRow W.heap.size e size (.slice (some ⟨W.heap.size, 0, none⟩) 0 0) 0 [] := (Row.alloc W [] e).own (Nat.le_refl _) (by simp [maxLen]) (by simp)
def spB (b : UInt8) (s : ByteArray) : List ByteArray := (sp b s.data.toList).map btx
theorem strs_snoc (L : List ByteArray) (s : ByteArray) : strs (L ++ [s]) = strs L ++ [.string s] := by simp [strs]
theorem byte_ne {x b : UInt8} (h : x ≠ b) : ((x.toNat : Int) == (b.toNat : Int)) = false := by
  rw [beq_eq_false_iff_ne]
  intro e
  exact h (UInt8.toNat_inj.1 (by omega))
set_option maxHeartbeats 1000000 in
theorem l01Split_any (s : ByteArray) (b : UInt8) (w : World) (hs : s.size ≤ 1048576) :
    Calls Tryd.prog 20 #[.string s, .int .u8 (b.toNat : Int)] w fun e w' => ∃ A c, e = .returned (.slice A (spB b s).length c) ∧ w'.ownsRow w.heap.size 9 1 (.slice A (spB b s).length c) (spB b s).length (strs (spB b s)) ∧ Below w.heap.size w w' := by
  have O0 := Lib.hid (own_empty0 w 9 1)
  have B0 := Lib.hid (below_alloc1 w (.cells #[] 9))
  go_enter Tryd.func20, Tryd.ntmps20
  go_wp2_with fail
  go_loopw [5, 6, 7] (fun o v1 v2 wr => ∃ (L : List ByteArray) (g k : Nat) (A' : Option Addr) (c' : Nat), g ≤ k ∧ k ≤ s.size ∧ L.length ≤ k ∧ v1 = .int .i64 g ∧ v2 = .int .i64 k ∧ o = .slice A' L.length c' ∧ Hid (spB b s = L ++ (sp b (s.data.toList.drop g)).map btx) ∧ Hid (b ∉ (s.data.toList.drop g).take (k - g)) ∧ Hid (wr.ownsRow w.heap.size 9 1 (.slice A' L.length c') L.length (strs L)) ∧ Hid (Below w.heap.size w wr)) (fun _ _ v _ => s.size - (intOf v).toNat)
  case atStart => exact ⟨[], 0, 0, _, _, by omega, by omega, by simp, rfl, rfl, rfl, Lib.hid rfl, Lib.hid (by simp), O0, B0⟩
  case round =>
    obtain ⟨L, g, k, A', c', hg, hk, hLk, rfl, rfl, rfl, hS, hN, O, HB⟩ := hrel
    clear O0 B0
    by_cases hlt : k < s.size
    · have hki : (k : Int) < (s.size : Int) := by omega
      have hd := str_drop s hlt
      have e0 : s.data.toList.drop g = (s.data.toList.drop g).take (k - g) ++ (s[k]'hlt) :: s.data.toList.drop (k + 1) := by
        conv => lhs; rw [← List.take_append_drop (k - g) (s.data.toList.drop g)]
        rw [List.drop_drop, show g + (k - g) = k by omega, hd]
      by_cases hb : s[k]'hlt = b
      · have hE : ((((s[k]'hlt).toNat : Int)) == (b.toNat : Int)) = true := by rw [hb]; simp
        have hX : s.extract g k = btx ((s.data.toList.drop g).take (k - g)) := btx_of (Lib.extract_data s g k)
        have hS2 : spB b s = (L ++ [s.extract g k]) ++ (sp b (s.data.toList.drop (k + 1))).map btx := by
          rw [hb] at e0
          have h2 : sp b (s.data.toList.drop g) = (s.data.toList.drop g).take (k - g) :: sp b (s.data.toList.drop (k + 1)) := (congrArg (sp b) e0).trans (sp_app hN.out _)
          rw [hS.out, h2, hX]
          simp
        have HS2 := Lib.hid hS2
        have HLL : Hid (L.length + 1 = (L ++ [s.extract g k]).length) := Lib.hid (by simp)
        clear hS2 hX e0 hd hb
        have hgk : (g : Int) ≤ (k : Int) := by omega
        have hks : (k : Int) ≤ (s.size : Int) := by omega
        go_wp2_with ((at_builtin; refine app_any (w0 := w) w.heap.size (by rfl) _ _ 44 9 (.string ByteArray.empty) 1 16 (by rfl) Tryd.underlying44 infoStr rfl (by omega) (by omega) _ (by rfl) 1 1 [.string (s.extract g k)] (by rfl) (by rfl) (by simp [Value.oneCell']) O.out HB.out HB.out.size (by omega) ?_; intro A2 c2 w3 O3 HB3 hg3))
        rw [← strs_snoc] at O3
        clear hg3
        rw [HLL.out] at O3 ⊢
        go_roundw
        case rel => exact ⟨L ++ [s.extract g k], k + 1, k + 1, A2, c2, by omega, by omega, by rw [← HLL.out]; omega, by go_num, by go_num, rfl, HS2, Lib.hid (by simp), Lib.hid O3, Lib.hid HB3⟩
        case measure => simp [intOf]; omega
      · have hE := byte_ne hb
        have HN2 : Hid (b ∉ (s.data.toList.drop g).take (k + 1 - g)) := Lib.hid (by
          have h1 : (s.data.toList.drop g).take (k + 1 - g) = (s.data.toList.drop g).take (k - g) ++ [s[k]'hlt] := by
            rw [show k + 1 - g = (k - g) + 1 by omega, List.take_add_one, List.getElem?_drop, show g + (k - g) = k by omega, List.getElem?_eq_getElem (by rw [str_len]; exact hlt)]
            rfl
          rw [h1, List.mem_append, List.mem_singleton]
          rintro (h2 | h2)
          · exact hN.out h2
          · exact hb h2.symm)
        clear e0 hd hb
        go_wp2_with fail
        go_roundw
        case rel => exact ⟨L, g, k + 1, A', c', by omega, by omega, by omega, rfl, by go_num, rfl, hS, HN2, O, HB⟩
        case measure => simp [intOf]; omega
    · obtain rfl : k = s.size := by omega
      have hni : ¬ (s.size : Int) < (s.size : Int) := by omega
      have hX : s.extract g s.size = btx (s.data.toList.drop g) := btx_of (Lib.extract_to_end s g)
      have hS2 : spB b s = L ++ [s.extract g s.size] := by
        have h1 : (s.data.toList.drop g).take (s.size - g) = s.data.toList.drop g := List.take_of_length_le (by rw [List.length_drop, str_len]; omega)
        rw [hS.out, sp_none (by have := hN.out; rw [h1] at this; exact this), hX]
        rfl
      have HS2 := Lib.hid hS2
      clear hS2 hX
      have hgk : (g : Int) ≤ (s.size : Int) := by omega
      go_wp2_with ((at_builtin; refine app_any (w0 := w) w.heap.size (by rfl) _ _ 44 9 (.string ByteArray.empty) 1 16 (by rfl) Tryd.underlying44 infoStr rfl (by omega) (by omega) _ (by rfl) 1 1 [.string (s.extract g s.size)] (by rfl) (by rfl) (by simp [Value.oneCell']) O.out HB.out HB.out.size (by omega) ?_; intro A2 c2 w3 O3 HB3 hg3))
      rw [← strs_snoc, ← HS2.out] at O3
      have HLL : Hid (L.length + 1 = (spB b s).length) := Lib.hid (by rw [HS2.out]; simp)
      rw [HLL.out] at O3 ⊢
      go_ret
      exact ⟨A2, c2, rfl, O3, HB3⟩
end Go.Proofs.YtjjdmabhmpkijaaDoor
