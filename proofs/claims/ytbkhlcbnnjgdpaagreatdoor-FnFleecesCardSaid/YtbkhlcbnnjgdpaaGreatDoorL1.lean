/- Contracts: the text of fleeces: impl.fleecesText over a strings.Builder, spec.l01Text. -/
import Derived.Test.YtbkhlcbnnjgdpaaGreatDoorBq
import Derived.Test.YtbkhlcbnnjgdpaaGreatDoorBu
namespace Go.Proofs.YtbkhlcbnnjgdpaaGreatDoor
open Go.RowKit
set_option linter.unusedVariables false
set_option linter.unusedSimpArgs false
theorem i32_rng {x : Int} (h : (Lit.int .i32 x).wf = true) : -2147483648 ≤ x ∧ x ≤ 2147483647 := by simp [Lit.wf, IntKind.min, IntKind.max, IntKind.signed, IntKind.bits] at h; omega
/-- The numbers of a heap, a blank ahead of each. -/
def gs (L : List Int) : List UInt8 := L.flatMap fun y => 32 :: Lib.itoa y
/-- A fleece's line. -/
def flL (x : Int × List Int) : List UInt8 := Lib.itoa x.1 ++ 58 :: gs x.2 ++ [10]
def flT (xs : List (Int × List Int)) : List UInt8 := xs.flatMap flL
/-- A text of bytes. -/
def bt (l : List UInt8) : ByteArray := ⟨l.toArray⟩
theorem bt_add (a b : List UInt8) : bt a ++ bt b = bt (a ++ b) := by apply ByteArray.ext; simp [bt]
theorem bt_size (a : List UInt8) : (bt a).size = a.length := by show a.toArray.size = _; simp
theorem dec_bt (n : Int) : dec n = bt (Lib.itoa n) := rfl
theorem gs_succ {L : List Int} {k : Nat} {y : Int} (h : L[k]? = some y) : gs (L.take (k + 1)) = gs (L.take k) ++ 32 :: Lib.itoa y := by
  unfold gs
  rw [List.take_add_one, h]
  simp
theorem flT_succ {xs : List (Int × List Int)} {k : Nat} {x : Int × List Int} (h : xs[k]? = some x) : flT (xs.take (k + 1)) = flT (xs.take k) ++ flL x := by
  unfold flT
  rw [List.take_add_one, h]
  simp
theorem itoa_le (n : Int) (h0 : -9223372036854775808 ≤ n) (h1 : n ≤ 9223372036854775807) : (Lib.itoa n).length ≤ 21 := by
  have := Lib.itoa_length_le n h0 h1
  omega
theorem gs_le {L : List Int} (h : ∀ y ∈ L, (Lit.int .i32 y).wf = true) : (gs L).length ≤ 22 * L.length := by
  induction L with
  | nil => show 0 ≤ _; omega
  | cons y L ih =>
    have h1 := i32_rng (h y (by simp))
    have h2 := itoa_le y (by omega) (by omega)
    have h3 := ih (fun z hz => h z (by simp [hz]))
    have e : gs (y :: L) = (32 :: Lib.itoa y) ++ gs L := by simp [gs]
    rw [e, List.length_append, List.length_cons, List.length_cons]
    omega
theorem flL_le {x : Int × List Int} (h : (Lit.int .i8 x.1).wf = true ∧ x.2.length = 8 ∧ ∀ y ∈ x.2, (Lit.int .i32 y).wf = true) : (flL x).length ≤ 200 := by
  have h1 := i8_rng h.1
  have h2 := itoa_le x.1 (by omega) (by omega)
  have h3 := gs_le h.2.2
  have h4 := h.2.1
  simp only [flL, List.length_append, List.length_cons, List.length_nil]
  omega
theorem flT_le {xs : List (Int × List Int)} (h : FlOk xs) : (flT xs).length ≤ 200 * xs.length := by
  induction xs with
  | nil => show 0 ≤ _; omega
  | cons x xs ih =>
    have h1 := flL_le (h x (by simp))
    have h3 := ih (fun z hz => h z (by simp [hz]))
    have e : flT (x :: xs) = flL x ++ flT xs := by simp [flT]
    rw [e, List.length_append, List.length_cons]
    omega
theorem flT_take_le {xs : List (Int × List Int)} (h : FlOk xs) (k : Nat) : (flT (xs.take k)).length ≤ 200 * k := by
  have h1 : FlOk (xs.take k) := fun x hx => h x (List.mem_of_mem_take hx)
  have h2 := flT_le h1
  have h3 : (xs.take k).length ≤ k := by rw [List.length_take]; omega
  omega
theorem gs_take_le {L : List Int} (h : ∀ y ∈ L, (Lit.int .i32 y).wf = true) (k : Nat) : (gs (L.take k)).length ≤ 22 * k := by
  have h2 := gs_le (L := L.take k) (fun x hx => h x (List.mem_of_mem_take hx))
  have h3 : (L.take k).length ≤ k := by rw [List.length_take]; omega
  omega
theorem getD8 {L : List Int} {k : Nat} (hk : k < L.length) : L[k]? = some (L.getD k 0) := by rw [List.getD_eq_getElem?_getD, List.getElem?_eq_getElem hk]; rfl
theorem bld_below {T e : TypeId} {B b : Nat} {bs : List Value} {W W' : World} (h : Lib.IsBuilderF T e B b bs W) (hb : Below W.heap.size W W') : Lib.IsBuilderF T e B b bs W' := by
  refine h.elim (fun h => .inl ?_) (fun h => .inr ?_)
  all_goals
    obtain ⟨hB, v, hv, hown, hne⟩ := h
    exact ⟨hB, v, (hb.block b (Array.getElem?_eq_some_iff.1 hv).1).trans hv, hown.kept (row := none) ⟨hb.os, hb.tape, hb.output, hb.size, fun k hk _ => hb.block k hk⟩ (Classical.em _), hne⟩
theorem bld_lt {T e : TypeId} {B b : Nat} {bs : List Value} {W : World} (h : Lib.IsBuilderF T e B b bs W) : b < W.heap.size := by
  rcases h with ⟨_, v, hv, _⟩ | ⟨_, v, hv, _⟩
  all_goals exact (Array.getElem?_eq_some_iff.1 hv).1
theorem Row.others {w w' : World} {B b : Nat} {E e : TypeId} {L : List Value} (h : Row w B E L) (k : Lib.OthersKept e (some b) w w') (hb : B ≠ b) (he : E ≠ e) : Row w' B E L :=
  k B _ h (by simpa using hb) (fun c fz h2 => by injection h2 with _ h3 _; exact he h3)
theorem idxG8 (a0 a1 a2 a3 a4 a5 a6 a7 : Int) : ∀ k : Nat, k < 8 → ∀ w : World, (Instr.index 25 (.agg #[.int .i32 a0, .int .i32 a1, .int .i32 a2, .int .i32 a3, .int .i32 a4, .int .i32 a5, .int .i32 a6, .int .i32 a7]) (.int .i64 k)).run Tryz.prog w = .ok (.int .i32 ([a0, a1, a2, a3, a4, a5, a6, a7].getD k 0)) w := by
  obtain ⟨i0, i1, i2, i3, i4, i5, i6, i7⟩ := idxH a0 a1 a2 a3 a4 a5 a6 a7
  intro k hk w
  match k, hk with
  | 0, _ => exact i0 w
  | 1, _ => exact i1 w
  | 2, _ => exact i2 w
  | 3, _ => exact i3 w
  | 4, _ => exact i4 w
  | 5, _ => exact i5 w
  | 6, _ => exact i6 w
  | 7, _ => exact i7 w
/-- WriteString, the text being a list of bytes. -/
theorem put_any (B b : Nat) (l s : List UInt8) (S : ByteArray) (w : World) (h : Lib.IsBuilderF 107 5 B b (Lib.byteCells l) w) (hS : S = bt s) (hlen : l.length + s.length ≤ 1000000) (hBw : B ≤ w.heap.size) :
    Calls Tryz.prog 72 #[.pointer (some ⟨b, 0, none⟩), .string S] w fun e w' => e = .returned (.tuple #[.int .i64 s.length, .nilIface]) ∧ Lib.IsBuilderF 107 5 B b (Lib.byteCells (l ++ s)) w' ∧ Below B w w' ∧ Lib.OthersKept 5 (some b) w w' := by
  subst hS
  refine (Tryz.Builder_WriteString_k B b (Lib.byteCells l) (bt s) w h (by rw [Lib.byteCells_length, bt_size]; omega) hBw).mono ?_
  rintro e w' ⟨rfl, h1, h2, h3⟩
  refine ⟨by rw [bt_size], .inr ?_, h2, h3⟩
  rw [Lib.byteCells_append]
  exact h1
set_option maxHeartbeats 4000000 in
theorem ifleecesText (B0 : Nat) (A : Option Addr) (n c : Nat) (xs : List (Int × List Int)) (w : World) (R : Rds w A n 9 FlC xs) (hF : Hid (FlOk xs)) (h6 : n ≤ 6) (hT : Tb B0 w) (hB0 : B0 ≤ w.heap.size) :
    Calls Tryz.prog 48 #[.slice A n c] w fun e w' => e = .returned (.string (bt (flT xs))) ∧ Below w.heap.size w w' := by
  have HXL := Lib.hid R.1
  obtain ⟨W1, hW1⟩ : ∃ x, x = w.alloc (.cells #[.pointer none, .slice none 0 0] 107) := ⟨_, rfl⟩
  have X0 : Lib.IsBuilderF 107 5 w.heap.size w.heap.size (Lib.byteCells (flT (xs.take 0))) W1 := by rw [hW1]; exact Lib.IsBuilderF.of (Lib.fresh_isBuilder _ _ w)
  have hb1 : Below w.heap.size w W1 := by rw [hW1]; exact below_alloc1 w _
  have Y0 := Lib.hid X0; have HB := Lib.hid hb1
  clear X0 hb1
  go_enter Tryz.func48, Tryz.ntmps48
  go_wp2_with fail
  rw [← hW1]
  clear hW1
  go_loopw [10] (fun v wr => ∃ k : Nat, k ≤ n ∧ v = .int .i64 k ∧ Hid (Lib.IsBuilderF 107 5 w.heap.size w.heap.size (Lib.byteCells (flT (xs.take k))) wr) ∧ Hid (Below w.heap.size w wr)) (fun v _ => n - (intOf v).toNat)
  case atStart => exact ⟨0, by omega, rfl, Y0, HB⟩
  case round =>
    obtain ⟨k, hk, rfl, hBd, hB⟩ := hrel
    clear Y0 HB
    by_cases hlt : k < n
    · obtain ⟨ad, f, a0, a1, a2, a3, a4, a5, a6, a7, rfl, hx, e0, e1, e2, e3, e4, e5, e6, e7, e8⟩ := (R.below hB.out).fleece hF.out.len hlt
      have hm := hF.out _ (List.mem_of_getElem? hx)
      have hw : Hid (∀ x ∈ [a0, a1, a2, a3, a4, a5, a6, a7], (Lit.int .i32 x).wf = true) := Lib.hid hm.2.2
      have hf := i8_rng hm.1
      change -128 ≤ f ∧ f ≤ 127 at hf
      have HS : Hid (flT (xs.take (k + 1)) = flT (xs.take k) ++ (Lib.itoa f ++ 58 :: gs [a0, a1, a2, a3, a4, a5, a6, a7] ++ [10])) := Lib.hid (flT_succ hx)
      have hTl := flT_take_le hF.out k
      obtain ⟨P, hP⟩ : ∃ P, flT (xs.take k) = P := ⟨_, rfl⟩
      rw [hP] at hTl HS
      rw [hP] at hBd
      have IX := Lib.hid (idxG8 a0 a1 a2 a3 a4 a5 a6 a7)
      have hQb : w.heap.size < wr.heap.size := bld_lt hBd.out
      clear hx hm hP
      have hb3 := below_alloc1 wr (.cells #[.int .i8 f, .int .i32 a0, .int .i32 a1, .int .i32 a2, .int .i32 a3, .int .i32 a4, .int .i32 a5, .int .i32 a6, .int .i32 a7] 58)
      have hD1 := Lib.hid (bld_below hBd.out hb3)
      have hB1 := Lib.hid (below_then hB.out hB.out.size hb3)
      have hX1 : Hid (Row (wr.alloc (.cells #[.int .i8 f, .int .i32 a0, .int .i32 a1, .int .i32 a2, .int .i32 a3, .int .i32 a4, .int .i32 a5, .int .i32 a6, .int .i32 a7] 58)) wr.heap.size 58 [.int .i8 f, .int .i32 a0, .int .i32 a1, .int .i32 a2, .int .i32 a3, .int .i32 a4, .int .i32 a5, .int .i32 a6, .int .i32 a7]) := Lib.hid (Row.alloc wr [.int .i8 f, .int .i32 a0, .int .i32 a1, .int .i32 a2, .int .i32 a3, .int .i32 a4, .int .i32 a5, .int .i32 a6, .int .i32 a7] 58)
      clear hb3
      obtain ⟨x0, x1, x2, x3, x4, x5, x6, x7, x8⟩ := hX1.out.cells9
      clear x1 x2 x3 x4 x5 x6 x7 x8
      have v5 : IntKind.i64.wrap f = f := IntWalk.i64_in _ (by omega)
      have HD := Lib.hid (fun w h => decimal_any B0 f w (by omega) (by omega) h)
      have hd := dec_len f (by omega) (by omega)
      obtain ⟨D, hD⟩ : ∃ D, dec f = D := ⟨_, rfl⟩
      rw [hD] at hd HD
      have HDD := Lib.hid hD
      clear hD
      have hc0 : ¬ 9223372036854775807 < D.size + 1 := by omega
      go_wp2_with fail
      clear e0 e1 e2 e3 e4 e5 e6 e7 e8 x0
      generalize wr.alloc (.cells #[.int .i8 f, .int .i32 a0, .int .i32 a1, .int .i32 a2, .int .i32 a3, .int .i32 a4, .int .i32 a5, .int .i32 a6, .int .i32 a7] 58) = W3 at hD1 hB1 hX1 ⊢
      obtain ⟨Q, hQ⟩ : ∃ Q, wr.heap.size = Q := ⟨_, rfl⟩
      rw [hQ] at hX1 hQb
      rw [hQ]
      clear hQ hBd hB
      refine (HD.out _ (hT.on (hB1.out.mono hB0))).mono ?_
      rintro e w4 ⟨rfl, hb4⟩
      replace hX1 := Lib.hid (hX1.out.below hb4)
      replace hD1 := Lib.hid (bld_below hD1.out hb4)
      replace hB1 := Lib.hid (below_then hB1.out hB1.out.size hb4)
      clear hb4 HD
      go_wp2_with fail
      refine (put_any w.heap.size w.heap.size P (Lib.itoa f ++ [58]) _ _ hD1.out (by rw [← HDD.out, dec_bt]; exact bt_add _ _) (by have := dec_len f (by omega) (by omega); rw [dec_bt, bt_size] at this; rw [List.length_append]; show P.length + ((Lib.itoa f).length + 1) ≤ _; omega) hB1.out.size).mono ?_
      rintro e w5 ⟨rfl, hD5, hb5, ho5⟩
      replace hX1 := Lib.hid (hX1.out.others ho5 (by omega) (by decide))
      replace hB1 := Lib.hid (hB1.out.trans hb5)
      replace hD1 := Lib.hid hD5
      clear hb5 ho5 hD5 hc0 hd HDD v5
      obtain ⟨x0, x1, x2, x3, x4, x5, x6, x7, x8⟩ := hX1.out.cells9
      clear hX1
      go_wp2_with fail
      clear x0 x1 x2 x3 x4 x5 x6 x7 x8
      go_loopw [22] (fun v wr => ∃ j : Nat, j ≤ 8 ∧ v = .int .i64 j ∧ Hid (Lib.IsBuilderF 107 5 w.heap.size w.heap.size (Lib.byteCells (P ++ (Lib.itoa f ++ [58]) ++ gs ([a0, a1, a2, a3, a4, a5, a6, a7].take j))) wr) ∧ Hid (Below w.heap.size w wr)) (fun v _ => 8 - (intOf v).toNat)
      case atStart => exact ⟨0, by omega, rfl, Lib.hid (by have := hD1.out; rw [List.take_zero]; show Lib.IsBuilderF _ _ _ _ (Lib.byteCells (P ++ (Lib.itoa f ++ [58]) ++ [])) _; rw [List.append_nil]; exact this), hB1⟩
      case round =>
        obtain ⟨j, hj, rfl, hBd, hB⟩ := hrel
        clear hD1 hB1
        by_cases hjt : j < 8
        · have hj1 : (j : Int) < 8 := by omega
          have ix := IX.out j hjt
          have hg := getD8 (L := [a0, a1, a2, a3, a4, a5, a6, a7]) (k := j) hjt
          have hgw := i32_rng (hw.out _ (List.mem_of_getElem? hg))
          have HG := Lib.hid (gs_succ hg)
          have hGl := gs_take_le hw.out j
          have hfl := itoa_le f (by omega) (by omega)
          clear hg
          obtain ⟨v, hv⟩ : ∃ v, [a0, a1, a2, a3, a4, a5, a6, a7].getD j 0 = v := ⟨_, rfl⟩
          rw [hv] at ix hgw HG
          clear hv
          obtain ⟨G, hG⟩ : ∃ G, gs ([a0, a1, a2, a3, a4, a5, a6, a7].take j) = G := ⟨_, rfl⟩
          rw [hG] at hGl HG
          rw [hG] at hBd
          clear hG
          have v5 : IntKind.i64.wrap v = v := IntWalk.i64_in _ (by omega)
          have HD := Lib.hid (fun w h => decimal_any B0 v w (by omega) (by omega) h)
          have hd := dec_len v (by omega) (by omega)
          obtain ⟨D, hD⟩ : ∃ D, dec v = D := ⟨_, rfl⟩
          rw [hD] at hd HD
          have HDD := Lib.hid hD
          have hdl : D.size = (Lib.itoa v).length := by rw [← hD, dec_bt, bt_size]
          clear hD
          have hc0 : ¬ 9223372036854775807 < 1 + D.size := by omega
          go_wp2_with fail
          refine (HD.out _ (hT.on (hB.out.mono hB0))).mono ?_
          rintro e w4 ⟨rfl, hb4⟩
          have hD1 := Lib.hid (bld_below hBd.out hb4)
          have hB1 := Lib.hid (below_then hB.out hB.out.size hb4)
          clear hb4 HD ix
          go_wp2_with fail
          refine (put_any w.heap.size w.heap.size (P ++ (Lib.itoa f ++ [58]) ++ G) (32 :: Lib.itoa v) _ _ hD1.out (by rw [← HDD.out, dec_bt]; exact bt_add [32] _) (by rw [List.length_append, List.length_append, List.length_append]; show P.length + ((Lib.itoa f).length + 1) + G.length + ((Lib.itoa v).length + 1) ≤ _; omega) hB1.out.size).mono ?_
          rintro e w5 ⟨rfl, hD5, hb5, ho5⟩
          have hB5 := Lib.hid (hB1.out.trans hb5)
          have HD5 := Lib.hid hD5
          clear hb5 ho5 hD5
          go_wp2_with fail
          go_roundw
          case rel => exact ⟨j + 1, by omega, by go_num, Lib.hid (by rw [HG.out, ← List.append_assoc]; exact HD5.out), hB5⟩
          case measure => simp [intOf]; omega
        · obtain rfl : j = 8 := by omega
          have hGl := gs_take_le hw.out 8
          have hfl := itoa_le f (by omega) (by omega)
          go_wp2_with fail
          refine (put_any w.heap.size w.heap.size (P ++ (Lib.itoa f ++ [58]) ++ gs ([a0, a1, a2, a3, a4, a5, a6, a7].take 8)) [10] _ _ hBd.out rfl (by rw [List.length_append, List.length_append, List.length_append]; show P.length + ((Lib.itoa f).length + 1) + _ + 1 ≤ _; omega) hB.out.size).mono ?_
          rintro e w5 ⟨rfl, hD5, hb5, ho5⟩
          have hB5 := Lib.hid (hB.out.trans hb5)
          have HD5 := Lib.hid hD5
          clear hb5 ho5 hD5
          go_wp2_with fail
          go_roundw
          case rel => exact ⟨k + 1, by omega, by go_num, Lib.hid (by
            rw [HS.out]
            have := HD5.out
            rw [show P ++ (Lib.itoa f ++ [58]) ++ gs ([a0, a1, a2, a3, a4, a5, a6, a7].take 8) ++ [10] = P ++ (Lib.itoa f ++ 58 :: gs [a0, a1, a2, a3, a4, a5, a6, a7] ++ [10]) by simp] at this
            exact this), hB5⟩
          case measure => simp [intOf]; omega
    · obtain rfl : k = n := by omega
      have HW : Hid (xs.take k = xs) := Lib.hid (by rw [List.take_of_length_le]; rw [HXL.out]; exact Nat.le_refl _)
      go_wp2_with fail
      refine (Tryz.Builder_String_any_f w.heap.size w.heap.size _ _ hBd.out hB.out.size).mono ?_
      rintro e w5 ⟨rfl, hD5, hb5⟩
      have hB5 := Lib.hid (hB.out.trans hb5)
      clear hD5 hb5
      go_wp2_with fail
      go_ret
      exact ⟨by rw [HW.out]; rfl, hB5.out⟩
end Go.Proofs.YtbkhlcbnnjgdpaaGreatDoor
