/- FnFleeces: the plain law of heaps (sorted out, taken, parted, washed; mean and median length); FnFleeces: the plain law of lists of fleeces (texts read back, grades); The tails of a function's code by their number, and a frame of 648 slots as slots. -/
import Derived.Test.YtbkhlcbnnjgdpaaGreatDoorH9
import Derived.Test.YtbkhlcbnnjgdpaaGreatDoorR2
import Derived.Test.YtbkhlcbnnjgdpaaGreatDoorR3
import Derived.Test.YtbkhlcbnnjgdpaaGreatDoorR4
import Derived.Test.YtbkhlcbnnjgdpaaGreatDoorT2
import Derived.Test.YtbkhlcbnnjgdpaaGreatDoorBu
import Derived.Test.YtbkhlcbnnjgdpaaGreatDoorJ3
import Derived.Test.YtbkhlcbnnjgdpaaGreatDoorBv
import Derived.Test.YtbkhlcbnnjgdpaaGreatDoorBa
namespace Go.Proofs.YtbkhlcbnnjgdpaaGreatDoor
open Go.RowKit
set_option linter.unusedVariables false
set_option linter.unusedSimpArgs false
/-- What a drawn heap is like. -/
structure Hp (L : List Int) : Prop where
  len : L.length = 8
  bd : ∀ y ∈ L, 0 ≤ y ∧ y ≤ 12
theorem getD_bd {L : List Int} {b : Int} (hb : 0 ≤ b) (h : ∀ y ∈ L, 0 ≤ y ∧ y ≤ b) (k : Nat) : 0 ≤ L.getD k 0 ∧ L.getD k 0 ≤ b := by
  rw [List.getD_eq_getElem?_getD]
  by_cases hk : k < L.length
  · rw [List.getElem?_eq_getElem hk]; exact h _ (List.getElem_mem hk)
  · rw [List.getElem?_eq_none (by omega)]; exact ⟨Int.le_refl _, hb⟩
theorem Hp.at {L : List Int} (h : Hp L) (k : Nat) : 0 ≤ L.getD k 0 ∧ L.getD k 0 ≤ 12 := getD_bd (by omega) h.bd k
theorem Hp.ok {L : List Int} (h : Hp L) : heapOk L = true := by
  simp only [heapOk, List.all_eq_true, inB, decide_eq_true_eq]
  intro y hy
  have := h.bd y hy
  omega
theorem Hp.wf {L : List Int} (h : Hp L) : ∀ x ∈ L, (Lit.int .i32 x).wf = true := fun y hy => by
  have := h.bd y hy
  simp [Lit.wf, IntKind.min, IntKind.max, IntKind.signed, IntKind.bits]; omega
theorem Hp.all {L : List Int} (h : Hp L) : 0 ≤ hsL L ∧ hsL L ≤ 96 := by
  have := h.at
  have h0 := this 0; have h1 := this 1; have h2 := this 2; have h3 := this 3; have h4 := this 4; have h5 := this 5; have h6 := this 6; have h7 := this 7
  unfold hsL hS
  omega
theorem hp8 {f : Nat → Int} (h : ∀ k, k < 8 → 0 ≤ f k ∧ f k ≤ 12) : Hp [f 0, f 1, f 2, f 3, f 4, f 5, f 6, f 7] := by
  refine ⟨rfl, fun y hy => ?_⟩
  simp only [List.mem_cons, List.not_mem_nil, or_false] at hy
  rcases hy with rfl | rfl | rfl | rfl | rfl | rfl | rfl | rfl
  · exact h 0 (by omega)
  · exact h 1 (by omega)
  · exact h 2 (by omega)
  · exact h 3 (by omega)
  · exact h 4 (by omega)
  · exact h 5 (by omega)
  · exact h 6 (by omega)
  · exact h 7 (by omega)
/-- Two heaps that sum up to a drawn one. -/
theorem jo_hp {A B L : List Int} (hA : Hp A) (hB : Hp B) (hL : Hp L) (h : List.zipWith (· + ·) A B = L) : joC A B = 0 := by
  unfold joC
  rw [hA.ok, hB.ok, h, hL.ok]
  simp
theorem so_ok {L : List Int} (h : Hp L) {lo hi : Int} (h0 : 0 ≤ lo) (h1 : lo ≤ hi) (h7 : hi ≤ 7) : soC L lo hi = 0 := by
  have e1 : inB lo 0 7 = true := by simp [inB]; omega
  have e2 : inB hi lo 7 = true := by simp [inB]; omega
  simp [soC, asC, h.ok, e1, e2]
theorem so_bd {x : Int} (h : 0 ≤ x ∧ x ≤ 12) (k : Nat) (lo hi : Int) : (0 ≤ soI k lo hi x ∧ soI k lo hi x ≤ 12) ∧ (0 ≤ soO k lo hi x ∧ soO k lo hi x ≤ 12) ∧ soI k lo hi x + soO k lo hi x = x ∧ (lo ≤ (k : Int) ∧ (k : Int) ≤ hi → soO k lo hi x = 0) ∧ (¬ (lo ≤ (k : Int) ∧ (k : Int) ≤ hi) → soI k lo hi x = 0) := by
  unfold soI soO
  by_cases hk : lo ≤ (k : Int) ∧ (k : Int) ≤ hi
  · have e : inB (k : Int) lo hi = true := by simp [inB]; exact hk
    rw [if_pos e, if_pos e]
    exact ⟨h, by omega, by omega, fun _ => rfl, fun hn => absurd hk hn⟩
  · have e : ¬ inB (k : Int) lo hi = true := by simp [inB]; omega
    rw [if_neg e, if_neg e]
    exact ⟨by omega, h, by omega, fun hy => absurd hy hk, fun _ => rfl⟩
/-- The sum of the d longest. -/
def tops (L : List Int) : Nat → Int
  | 0 => 0
  | d + 1 => tops L d + L.getD (7 - d) 0
theorem tops_all (L : List Int) : tops L 8 = hsL L := by
  simp only [tops, hsL, hS, Nat.sub_zero, Nat.reduceSub, Nat.sub_self]
  omega
theorem tkG_tops {L : List Int} {g : Int} (hb : ∀ k, 0 ≤ L.getD k 0) (hg : 0 ≤ g) : ∀ d : Nat, tkG L g d = max 0 (g - tops L d)
  | 0 => by simp only [tkG, tops]; omega
  | d + 1 => by
    have := hb (7 - d)
    simp only [tkG, tops]
    rw [tkG_tops hb hg d]
    omega
theorem tops_le {L : List Int} (hb : ∀ k, 0 ≤ L.getD k 0) (d : Nat) : ∀ e : Nat, tops L d ≤ tops L (d + e)
  | 0 => Int.le_refl _
  | e + 1 => by
    have := tops_le hb d e
    have h2 := hb (7 - (d + e))
    show tops L d ≤ tops L (d + e) + L.getD (7 - (d + e)) 0
    omega
theorem tk_step (L : List Int) (g : Int) {j : Nat} (h : j < 8) : tk L g j = tkG L g (7 - j) - tkG L g (8 - j) := by
  have e : 8 - j = (7 - j) + 1 := by omega
  have e2 : 7 - (7 - j) = j := by omega
  rw [e]
  simp only [tkG, tk, e2]
  omega
theorem tk_bd {L : List Int} (h : Hp L) {g : Int} (hg : 0 ≤ g) (j : Nat) : 0 ≤ tk L g j ∧ tk L g j ≤ L.getD j 0 := by
  have h1 := h.at j
  have h2 := tkG_tops (fun k => (h.at k).1) hg (7 - j)
  unfold tk
  omega
theorem tk_sum {L : List Int} (h : Hp L) {g : Int} (hg : 0 ≤ g) (hle : g ≤ hsL L) : hS (tk L g 0) (tk L g 1) (tk L g 2) (tk L g 3) (tk L g 4) (tk L g 5) (tk L g 6) (tk L g 7) = g := by
  have e8 := tkG_tops (fun k => (h.at k).1) hg 8
  rw [tops_all] at e8
  have s0 := tk_step L g (j := 0) (by omega)
  have s1 := tk_step L g (j := 1) (by omega)
  have s2 := tk_step L g (j := 2) (by omega)
  have s3 := tk_step L g (j := 3) (by omega)
  have s4 := tk_step L g (j := 4) (by omega)
  have s5 := tk_step L g (j := 5) (by omega)
  have s6 := tk_step L g (j := 6) (by omega)
  have s7 := tk_step L g (j := 7) (by omega)
  have z : tkG L g 0 = g := rfl
  simp only [Nat.sub_zero, Nat.reduceSub, Nat.sub_self] at s0 s1 s2 s3 s4 s5 s6 s7
  unfold hS
  omega
/-- Where a length is not taken whole, no shorter one is taken. -/
theorem tk_order {L : List Int} (h : Hp L) {g : Int} (hg : 0 ≤ g) {j k : Nat} (hj : j < k) (hk : k < 8) (hs : 0 < L.getD k 0 - tk L g k) : tk L g j = 0 := by
  have hb : ∀ k, 0 ≤ L.getD k 0 := fun k => (h.at k).1
  have e1 := tkG_tops hb hg (7 - k)
  have e2 := tkG_tops hb hg (7 - j)
  have hd : 7 - j = (7 - k + 1) + (k - 1 - j) := by omega
  have e3 := tops_le hb (7 - k + 1) (k - 1 - j)
  rw [← hd] at e3
  have e4 : tops L (7 - k + 1) = tops L (7 - k) + L.getD k 0 := by
    show tops L (7 - k) + L.getD (7 - (7 - k)) 0 = _
    rw [show 7 - (7 - k) = k by omega]
  have h5 := hb j
  have h6 := hb k
  unfold tk at hs ⊢
  omega
theorem tl_ok {L : List Int} (h : Hp L) {g : Int} (hg : 0 ≤ g) (hle : g ≤ hsL L) : tlC L g = 0 := by
  unfold tlC asC
  rw [h.ok]
  simp [hg]
  omega
/-- The parts of a heap. -/
theorem ph_ok {L : List Int} (h : Hp L) {m : Int} (h1 : 1 ≤ m) (h2 : m ≤ 6) : phC L m = 0 := by
  have e : inB m 1 20 = true := by simp [inB]; omega
  simp [phC, asC, h.ok, e]
theorem phv_bd {a m : Int} (ha : 0 ≤ a ∧ a ≤ 12) (hm : 1 ≤ m ∧ m ≤ 6) (i : Nat) : 0 ≤ phv a m i ∧ phv a m i ≤ 13 ∧ phv a m i ≤ phv a m 0 ∧ phv a m 0 ≤ phv a m i + 1 := by
  have h1 := tq_rng (x := a) (m := m) (by omega) (by omega)
  have h2 : a.tdiv m ≤ 12 := by rw [Int.tdiv_eq_ediv_of_nonneg ha.1]; exact Int.le_trans (Int.ediv_le_self m ha.1) ha.2
  unfold phv
  split <;> split <;> omega
def phs (a m : Int) : Nat → Int
  | 0 => 0
  | i + 1 => phs a m i + phv a m i
theorem phs_is (a m : Int) : ∀ i : Nat, phs a m i = (i : Int) * a.tdiv m + min (i : Int) (a % m) ∨ a % m < 0
  | 0 => by
    by_cases h : a % m < 0
    · exact .inr h
    · left; simp only [phs]; omega
  | i + 1 => by
    by_cases h : a % m < 0
    · exact .inr h
    · have ih := (phs_is a m i).resolve_right h
      left
      have e : ((i + 1 : Nat) : Int) * a.tdiv m = (i : Int) * a.tdiv m + a.tdiv m := by push_cast; rw [Int.add_mul, Int.one_mul]
      simp only [phs, phv]
      rw [ih, e]
      split <;> omega
theorem phs_all {a m : Int} (ha : 0 ≤ a) (hm : 1 ≤ m) : phs a m m.toNat = a := by
  have h3 := Int.emod_nonneg a (show m ≠ 0 by omega)
  have h4 := Int.emod_lt_of_pos a (show 0 < m by omega)
  have e := (phs_is a m m.toNat).resolve_right (by omega)
  have em : ((m.toNat : Nat) : Int) = m := by omega
  rw [em, Int.tdiv_eq_ediv_of_nonneg ha] at e
  have := Int.mul_ediv_add_emod a m
  omega
theorem phs_bd {a m : Int} (ha : 0 ≤ a ∧ a ≤ 12) (hm : 1 ≤ m ∧ m ≤ 6) : ∀ i : Nat, 0 ≤ phs a m i ∧ phs a m i ≤ 13 * i
  | 0 => by simp [phs]
  | i + 1 => by
    have := phs_bd ha hm i
    have h2 := phv_bd ha hm i
    simp only [phs]
    omega
/-- A washed heap. -/
theorem wa_ok {L : List Int} (h : Hp L) : waC L 10 = 0 := by simp [waC, asC, h.ok, inB]
theorem wsh_bd {x : Int} (h : 0 ≤ x ∧ x ≤ 12) : 0 ≤ wsh x 10 ∧ wsh x 10 ≤ x ∧ 9 * x - 10 ≤ 10 * wsh x 10 := by
  unfold wsh
  rw [Int.tdiv_eq_ediv_of_nonneg (by omega)]
  omega
theorem wsh_sum {a0 a1 a2 a3 a4 a5 a6 a7 : Int} (h : Hp [a0, a1, a2, a3, a4, a5, a6, a7]) :
    Hp [wsh a0 10, wsh a1 10, wsh a2 10, wsh a3 10, wsh a4 10, wsh a5 10, wsh a6 10, wsh a7 10] ∧ 0 ≤ hS (wsh a0 10) (wsh a1 10) (wsh a2 10) (wsh a3 10) (wsh a4 10) (wsh a5 10) (wsh a6 10) (wsh a7 10) ∧ hS (wsh a0 10) (wsh a1 10) (wsh a2 10) (wsh a3 10) (wsh a4 10) (wsh a5 10) (wsh a6 10) (wsh a7 10) ≤ hS a0 a1 a2 a3 a4 a5 a6 a7 ∧ 9 * hS a0 a1 a2 a3 a4 a5 a6 a7 - 80 ≤ 10 * hS (wsh a0 10) (wsh a1 10) (wsh a2 10) (wsh a3 10) (wsh a4 10) (wsh a5 10) (wsh a6 10) (wsh a7 10) := by
  have b0 := h.bd a0 (by simp); have b1 := h.bd a1 (by simp); have b2 := h.bd a2 (by simp); have b3 := h.bd a3 (by simp)
  have b4 := h.bd a4 (by simp); have b5 := h.bd a5 (by simp); have b6 := h.bd a6 (by simp); have b7 := h.bd a7 (by simp)
  have c0 := wsh_bd b0; have c1 := wsh_bd b1; have c2 := wsh_bd b2; have c3 := wsh_bd b3; have c4 := wsh_bd b4; have c5 := wsh_bd b5; have c6 := wsh_bd b6; have c7 := wsh_bd b7
  unfold hS
  refine ⟨⟨rfl, fun y hy => ?_⟩, by omega, by omega, by omega⟩
  simp only [List.mem_cons, List.not_mem_nil, or_false] at hy
  rcases hy with rfl | rfl | rfl | rfl | rfl | rfl | rfl | rfl <;> omega
/-- The mean length. -/
theorem sm_is {L : List Int} (h : Hp L) : (0 < hsL L → smC L = 0) ∧ (hsL L = 0 → smC L = 6) := by
  unfold smC
  rw [h.ok]
  constructor
  · intro h0; simp [h0]
  · intro h0; simp [h0]
theorem fr_mul {a b : Int} (ha : 0 ≤ a) (hb : 0 < b) : frN a b * b = a * frD a b ∧ 1 ≤ frD a b ∧ 0 ≤ frN a b ∧ frN a b ≤ a ∧ frD a b ≤ b := by
  have hg := gI_pos (a := a) (b := b) (by omega)
  have hd1 : gI a b ∣ a := by unfold gI; first | exact Int.gcd_dvd_left .. | exact Int.ofNat_dvd_left.2 (Nat.gcd_dvd_left _ _)
  have hd2 : gI a b ∣ b := by unfold gI; first | exact Int.gcd_dvd_right .. | exact Int.ofNat_dvd_left.2 (Nat.gcd_dvd_right _ _)
  have e : dI a b = gI a b := by unfold dI; rw [if_neg (by omega)]
  unfold frN frD
  rw [e]
  generalize gI a b = g at *
  obtain ⟨q, rfl⟩ := hd1
  obtain ⟨r, rfl⟩ := hd2
  rw [Int.mul_tdiv_cancel_left _ (by omega), Int.mul_tdiv_cancel_left _ (by omega)]
  have hr : 1 ≤ r := by
    by_cases h : 1 ≤ r
    · exact h
    · have := Int.mul_nonpos_of_nonneg_of_nonpos (a := g) (b := r) (by omega) (by omega); omega
  have hq : 0 ≤ q := by
    by_cases h : 0 ≤ q
    · exact h
    · have := Int.mul_neg_of_pos_of_neg (a := g) (b := q) hg (by omega); omega
  have h1 := Int.mul_le_mul_of_nonneg_right (show (1 : Int) ≤ g by omega) hq
  have h2 := Int.mul_le_mul_of_nonneg_right (show (1 : Int) ≤ g by omega) (show 0 ≤ r by omega)
  rw [Int.one_mul] at h1 h2
  refine ⟨by ac_rfl, hr, hq, h1, h2⟩
theorem wsum_bd12 {L : List Int} (h : Hp L) : ∀ k : Nat, k ≤ 8 → 0 ≤ wsum L k ∧ wsum L k ≤ 84 * k
  | 0, _ => by simp [wsum]
  | k + 1, hk => by
    have ih := wsum_bd12 h k (by omega)
    have hb := h.at k
    have h0 := Int.mul_nonneg (show (0 : Int) ≤ k by omega) hb.1
    have h1 : (k : Int) * L.getD k 0 ≤ 7 * 12 := Int.mul_le_mul (by omega) hb.2 hb.1 (by omega)
    simp only [wsum]
    omega
/-- The median length. -/
theorem mdn_is {L : List Int} (h : Hp L) (h0 : 0 < hsL L) : ∃ k : Nat, k < 8 ∧ mdn L = (k : Int) ∧ 2 * psum L k < hsL L ∧ hsL L ≤ 2 * (psum L k + L.getD k 0) := by
  have key : ∀ n : Nat, n ≤ 8 → hsL L ≤ 2 * psum L n ∨ True → (∀ j, n ≤ j → j ≤ 8 → hsL L ≤ 2 * psum L j) → 0 < n → ∃ k : Nat, k < n ∧ mdnTo L n = (k : Int) ∧ 2 * psum L k < hsL L ∧ hsL L ≤ 2 * (psum L k + L.getD k 0) := by
    intro n
    induction n with
    | zero => intro _ _ _ h; omega
    | succ n ih =>
      intro hn _ hall _
      by_cases hc : 2 * psum L n < hsL L
      · refine ⟨n, by omega, ?_, hc, ?_⟩
        · simp only [mdnTo]; rw [if_pos hc]
        · exact hall (n + 1) (Nat.le_refl _) (by omega)
      · have hn0 : 0 < n := by
          by_cases hz : 0 < n
          · exact hz
          · have : n = 0 := by omega
            subst this
            simp [psum] at hc; omega
        obtain ⟨k, k1, k2, k3, k4⟩ := ih (by omega) (.inr trivial) (fun j hj hj8 => by
          by_cases e : j = n
          · subst e; omega
          · exact hall j (by omega) hj8) hn0
        refine ⟨k, by omega, ?_, k3, k4⟩
        simp only [mdnTo]; rw [if_neg hc]; exact k2
  obtain ⟨k, k1, k2, k3, k4⟩ := key 8 (by omega) (.inr trivial) (fun j hj hj8 => by
    have : j = 8 := by omega
    subst this
    rw [psum_all]; omega) (by omega)
  exact ⟨k, k1, k2, k3, k4⟩
theorem psum_bd12 {L : List Int} (h : Hp L) : ∀ k : Nat, 0 ≤ psum L k ∧ psum L k ≤ 12 * k
  | 0 => by simp [psum]
  | k + 1 => by
    have ih := psum_bd12 h k
    have hb := h.at k
    simp only [psum]
    omega
end Go.Proofs.YtbkhlcbnnjgdpaaGreatDoor
namespace Go.Proofs.YtbkhlcbnnjgdpaaGreatDoor
open Go.RowKit
set_option linter.unusedVariables false
set_option linter.unusedSimpArgs false
theorem fld_ok {x : Int × List Int} (h : FlD x) : fleeceOk x.1 x.2 = true := by
  obtain ⟨h1, h2, h3, -, -⟩ := h
  have e1 : inB x.1 0 9 = true := by simp [inB]; omega
  have e2 : heapOk x.2 = true := by
    simp only [heapOk, List.all_eq_true, inB, decide_eq_true_eq]
    intro y hy
    have := h3 y hy
    omega
  simp [fleeceOk, e1, e2]
theorem fld_wf {xs : List (Int × List Int)} (h : ∀ x ∈ xs, FlD x) : FlOk xs := fun x hx => by
  obtain ⟨h1, h2, h3, -, -⟩ := h x hx
  refine ⟨by simp [Lit.wf, IntKind.min, IntKind.max, IntKind.signed, IntKind.bits]; omega, h2, fun y hy => ?_⟩
  have := h3 y hy
  simp [Lit.wf, IntKind.min, IntKind.max, IntKind.signed, IntKind.bits]; omega
theorem fld_all {xs : List (Int × List Int)} (h : ∀ x ∈ xs, FlD x) : flB xs = true := by
  simp only [flB, List.all_eq_true]
  exact fun x hx => fld_ok (h x hx)
theorem fld_flC {xs : List (Int × List Int)} (h : ∀ x ∈ xs, FlD x) (h4 : xs.length ≤ 4) : flC xs true = 0 := flC_zero.2 ⟨fld_all h, by omega⟩
/-- Fleeces are read back from their text. -/
theorem txt_back {xs : List (Int × List Int)} (h : ∀ x ∈ xs, FlD x) (h4 : xs.length ≤ 4) : rfR (flTxt xs).data.toList = xs ∧ rfC (flTxt xs).data.toList = 0 ∧ (flTxt xs).size ≤ 1048576 := by
  have hc := fld_flC h h4
  have e : flTxt xs = bt (flT xs) := by unfold flTxt; rw [if_pos hc]
  have hd : (bt (flT xs)).data.toList = flT xs := by simp [bt]
  have hs := flT_le (fld_wf h)
  rw [e, hd]
  obtain ⟨h1, h2⟩ := rf_end (fun x hx => (h x hx).2.1) hc rfl
  exact ⟨h1, h2, by rw [bt_size]; omega⟩
theorem ris36 : risOk [3, 6] = true := by decide
theorem gf_ok {xs : List (Int × List Int)} (h : ∀ x ∈ xs, FlD x) (h4 : xs.length ≤ 4) : gfC xs [3, 6] = 0 := by
  unfold gfC
  rw [ris36]
  exact fld_flC h h4
theorem gf_is {xs : List (Int × List Int)} (h : ∀ x ∈ xs, FlD x) (h4 : xs.length ≤ 4) : gfR xs [3, 6] = xs.map fun x => cntL [3, 6] x.1 := by
  unfold gfR
  rw [if_pos (gf_ok h h4)]
  unfold gfTo
  rw [List.take_length]
theorem gh_small {xs : List (Int × List Int)} (h : ∀ x ∈ xs, FlD x) (bs : List Int) (g j : Nat) : ∀ i, 0 ≤ ghS xs bs g j i ∧ ghS xs bs g j i ≤ 13 * i
  | 0 => by simp [ghS]
  | i + 1 => by
    have ih := gh_small h bs g j i
    simp only [ghS]
    cases hx : xs[i]? with
    | none => simp only [ghA, hx]; omega
    | some x =>
      rw [ghA_at hx]
      have hb : 0 ≤ x.2.getD j 0 ∧ x.2.getD j 0 ≤ 13 := by
        have h3 := (h x (List.mem_of_getElem? hx)).2.2.1
        rw [List.getD_eq_getElem?_getD]
        by_cases hk : j < x.2.length
        · rw [List.getElem?_eq_getElem hk]; exact h3 _ (List.getElem_mem hk)
        · rw [List.getElem?_eq_none (by omega)]; simp
      split <;> omega
theorem gh_is {xs : List (Int × List Int)} (h : ∀ x ∈ xs, FlD x) (h4 : xs.length ≤ 4) : ghC xs [3, 6] = 0 ∧ ghR xs [3, 6] = ghL xs [3, 6] xs.length 3 := by
  have hok : ghOk xs [3, 6] = true := gh_yes (fun g hg => by
    simp only [heapOk, List.all_eq_true, inB, decide_eq_true_eq]
    intro y hy
    have hb : 0 ≤ y ∧ y ≤ 13 * xs.length := by
      simp only [ghH, List.mem_cons, List.not_mem_nil, or_false] at hy
      rcases hy with rfl | rfl | rfl | rfl | rfl | rfl | rfl | rfl <;> exact gh_small h _ g _ _
    omega)
  have hc : ghC xs [3, 6] = 0 := by
    unfold ghC
    rw [if_pos (gf_ok h h4), hok]
    rfl
  refine ⟨hc, ?_⟩
  unfold ghR
  rw [if_pos hc]
  rfl
end Go.Proofs.YtbkhlcbnnjgdpaaGreatDoor
namespace Go.Proofs.YtbkhlcbnnjgdpaaGreatDoor
open Go.RowKit
def cd : Nat → Code → Code
  | 0, c => c
  | k + 1, .seq _ b => cd k b
  | _ + 1, c => c
def hd : Code → Code
  | .seq a _ => a
  | c => c
def rs : Code → Code
  | .seq _ b => b
  | c => c
noncomputable def flCode : Code := Tryz.f3.body.getD .skip
set_option maxRecDepth 100000 in
theorem slots648 (t : Array Value) (h : t.size = 648) : ∃ c : Nat → Value, (∀ i, t[i]! = c i) ∧ t = #[c 0, c 1, c 2, c 3, c 4, c 5, c 6, c 7, c 8, c 9, c 10, c 11, c 12, c 13, c 14, c 15, c 16, c 17, c 18, c 19, c 20, c 21, c 22, c 23, c 24, c 25, c 26, c 27, c 28, c 29, c 30, c 31, c 32, c 33, c 34, c 35, c 36, c 37, c 38, c 39, c 40, c 41, c 42, c 43, c 44, c 45, c 46, c 47, c 48, c 49, c 50, c 51, c 52, c 53, c 54, c 55, c 56, c 57, c 58, c 59, c 60, c 61, c 62, c 63, c 64, c 65, c 66, c 67, c 68, c 69, c 70, c 71, c 72, c 73, c 74, c 75, c 76, c 77, c 78, c 79, c 80, c 81, c 82, c 83, c 84, c 85, c 86, c 87, c 88, c 89, c 90, c 91, c 92, c 93, c 94, c 95, c 96, c 97, c 98, c 99, c 100, c 101, c 102, c 103, c 104, c 105, c 106, c 107, c 108, c 109, c 110, c 111, c 112, c 113, c 114, c 115, c 116, c 117, c 118, c 119, c 120, c 121, c 122, c 123, c 124, c 125, c 126, c 127, c 128, c 129, c 130, c 131, c 132, c 133, c 134, c 135, c 136, c 137, c 138, c 139, c 140, c 141, c 142, c 143, c 144, c 145, c 146, c 147, c 148, c 149, c 150, c 151, c 152, c 153, c 154, c 155, c 156, c 157, c 158, c 159, c 160, c 161, c 162, c 163, c 164, c 165, c 166, c 167, c 168, c 169, c 170, c 171, c 172, c 173, c 174, c 175, c 176, c 177, c 178, c 179, c 180, c 181, c 182, c 183, c 184, c 185, c 186, c 187, c 188, c 189, c 190, c 191, c 192, c 193, c 194, c 195, c 196, c 197, c 198, c 199, c 200, c 201, c 202, c 203, c 204, c 205, c 206, c 207, c 208, c 209, c 210, c 211, c 212, c 213, c 214, c 215, c 216, c 217, c 218, c 219, c 220, c 221, c 222, c 223, c 224, c 225, c 226, c 227, c 228, c 229, c 230, c 231, c 232, c 233, c 234, c 235, c 236, c 237, c 238, c 239, c 240, c 241, c 242, c 243, c 244, c 245, c 246, c 247, c 248, c 249, c 250, c 251, c 252, c 253, c 254, c 255, c 256, c 257, c 258, c 259, c 260, c 261, c 262, c 263, c 264, c 265, c 266, c 267, c 268, c 269, c 270, c 271, c 272, c 273, c 274, c 275, c 276, c 277, c 278, c 279, c 280, c 281, c 282, c 283, c 284, c 285, c 286, c 287, c 288, c 289, c 290, c 291, c 292, c 293, c 294, c 295, c 296, c 297, c 298, c 299, c 300, c 301, c 302, c 303, c 304, c 305, c 306, c 307, c 308, c 309, c 310, c 311, c 312, c 313, c 314, c 315, c 316, c 317, c 318, c 319, c 320, c 321, c 322, c 323, c 324, c 325, c 326, c 327, c 328, c 329, c 330, c 331, c 332, c 333, c 334, c 335, c 336, c 337, c 338, c 339, c 340, c 341, c 342, c 343, c 344, c 345, c 346, c 347, c 348, c 349, c 350, c 351, c 352, c 353, c 354, c 355, c 356, c 357, c 358, c 359, c 360, c 361, c 362, c 363, c 364, c 365, c 366, c 367, c 368, c 369, c 370, c 371, c 372, c 373, c 374, c 375, c 376, c 377, c 378, c 379, c 380, c 381, c 382, c 383, c 384, c 385, c 386, c 387, c 388, c 389, c 390, c 391, c 392, c 393, c 394, c 395, c 396, c 397, c 398, c 399, c 400, c 401, c 402, c 403, c 404, c 405, c 406, c 407, c 408, c 409, c 410, c 411, c 412, c 413, c 414, c 415, c 416, c 417, c 418, c 419, c 420, c 421, c 422, c 423, c 424, c 425, c 426, c 427, c 428, c 429, c 430, c 431, c 432, c 433, c 434, c 435, c 436, c 437, c 438, c 439, c 440, c 441, c 442, c 443, c 444, c 445, c 446, c 447, c 448, c 449, c 450, c 451, c 452, c 453, c 454, c 455, c 456, c 457, c 458, c 459, c 460, c 461, c 462, c 463, c 464, c 465, c 466, c 467, c 468, c 469, c 470, c 471, c 472, c 473, c 474, c 475, c 476, c 477, c 478, c 479, c 480, c 481, c 482, c 483, c 484, c 485, c 486, c 487, c 488, c 489, c 490, c 491, c 492, c 493, c 494, c 495, c 496, c 497, c 498, c 499, c 500, c 501, c 502, c 503, c 504, c 505, c 506, c 507, c 508, c 509, c 510, c 511, c 512, c 513, c 514, c 515, c 516, c 517, c 518, c 519, c 520, c 521, c 522, c 523, c 524, c 525, c 526, c 527, c 528, c 529, c 530, c 531, c 532, c 533, c 534, c 535, c 536, c 537, c 538, c 539, c 540, c 541, c 542, c 543, c 544, c 545, c 546, c 547, c 548, c 549, c 550, c 551, c 552, c 553, c 554, c 555, c 556, c 557, c 558, c 559, c 560, c 561, c 562, c 563, c 564, c 565, c 566, c 567, c 568, c 569, c 570, c 571, c 572, c 573, c 574, c 575, c 576, c 577, c 578, c 579, c 580, c 581, c 582, c 583, c 584, c 585, c 586, c 587, c 588, c 589, c 590, c 591, c 592, c 593, c 594, c 595, c 596, c 597, c 598, c 599, c 600, c 601, c 602, c 603, c 604, c 605, c 606, c 607, c 608, c 609, c 610, c 611, c 612, c 613, c 614, c 615, c 616, c 617, c 618, c 619, c 620, c 621, c 622, c 623, c 624, c 625, c 626, c 627, c 628, c 629, c 630, c 631, c 632, c 633, c 634, c 635, c 636, c 637, c 638, c 639, c 640, c 641, c 642, c 643, c 644, c 645, c 646, c 647] := by
  refine ⟨fun i => t[i]!, fun _ => rfl, ?_⟩
  have e : t = ((List.range 648).map fun i => t[i]!).toArray := by
    apply Array.ext
    · simp [h]
    · intro i h1 h2
      simp [h1]
  exact e.trans (congrArg List.toArray (by kernel_rfl))
end Go.Proofs.YtbkhlcbnnjgdpaaGreatDoor
