/- The plain law of the passes: all texts of passes have ranks: 0 the empty one, 3 r + 1 + d the text r with letter d behind it; the webs that are met for the first time. -/
import Derived.Test.YtefipngapgffdaaGreatDoorC14
import Derived.Test.YtefipngapgffdaaGreatDoorD3
namespace Go.Proofs.YtefipngapgffdaaGreatDoor
open Go.RowKit
set_option linter.unusedVariables false
set_option linter.unusedSimpArgs false
def psC (d : Nat) : Int := if d = 0 then 99 else if d = 1 then 102 else 114
def psB (d : Nat) : UInt8 := if d = 0 then 99 else if d = 1 then 102 else 114
theorem psB_psC (d : Nat) : ((psB d).toNat : Int) = psC d := by
  unfold psB psC
  split
  · rfl
  · split <;> rfl
def rk {α : Type} (z : α) (f : α → Nat → α) : Nat → Nat → α
  | 0, _ => z
  | _ + 1, 0 => z
  | k + 1, n + 1 => f (rk z f k (n / 3)) (n % 3)
theorem rk_fuel {α : Type} (z : α) (f : α → Nat → α) : ∀ (k n : Nat), n ≤ k → ∀ j, n ≤ j → rk z f k n = rk z f j n := by
  intro k
  induction k with
  | zero =>
    intro n hn j hj
    obtain rfl : n = 0 := by omega
    cases j <;> rfl
  | succ k ih =>
    intro n hn j hj
    cases n with
    | zero => cases j <;> rfl
    | succ n =>
      cases j with
      | zero => omega
      | succ j =>
        simp only [rk]
        rw [ih (n / 3) (by omega) j (by omega)]
def rank {α : Type} (z : α) (f : α → Nat → α) (n : Nat) : α := rk z f n n
theorem rank_zero {α : Type} (z : α) (f : α → Nat → α) : rank z f 0 = z := rfl
theorem rank_succ {α : Type} (z : α) (f : α → Nat → α) (n : Nat) : rank z f (n + 1) = f (rank z f (n / 3)) (n % 3) := by
  unfold rank
  simp only [rk]
  rw [rk_fuel z f n (n / 3) (by omega) (n / 3) (by omega)]
theorem rank_child {α : Type} (z : α) (f : α → Nat → α) (r d : Nat) (hd : d < 3) : rank z f (3 * r + 1 + d) = f (rank z f r) d := by
  rw [show 3 * r + 1 + d = (3 * r + d) + 1 by omega, rank_succ, show (3 * r + d) / 3 = r by omega, show (3 * r + d) % 3 = d by omega]
/-- Every rank but 0 is a child of a smaller one. -/
theorem rank_ind {p : Nat → Prop} (h0 : p 0) (hs : ∀ r d, d < 3 → p r → p (3 * r + 1 + d)) : ∀ r, p r := by
  intro r
  induction r using Nat.strongRecOn with
  | ind r ih =>
    cases r with
    | zero => exact h0
    | succ n =>
      have := hs (n / 3) (n % 3) (by omega) (ih (n / 3) (by omega))
      rwa [show 3 * (n / 3) + 1 + n % 3 = n + 1 by omega] at this
def rkV (xs : List Int) (r : Nat) : List Int := rank xs (fun v d => cardL v (psC d) 0) r
def rkS (r : Nat) : ByteArray := rank ByteArray.empty (fun s d => s.push (psB d)) r
def rkD (r : Nat) : Nat := rank 0 (fun k _ => k + 1) r
def tot : Nat → Nat
  | 0 => 1
  | m + 1 => 3 * tot m + 1
theorem rkV_zero (xs : List Int) : rkV xs 0 = xs := rfl
theorem rkS_zero : rkS 0 = ByteArray.empty := rfl
theorem rkV_child (xs : List Int) (r d : Nat) (hd : d < 3) : rkV xs (3 * r + 1 + d) = cardL (rkV xs r) (psC d) 0 := rank_child _ _ r d hd
theorem rkS_child (r d : Nat) (hd : d < 3) : rkS (3 * r + 1 + d) = (rkS r).push (psB d) := rank_child _ _ r d hd
theorem rkD_child (r d : Nat) (hd : d < 3) : rkD (3 * r + 1 + d) = rkD r + 1 := rank_child _ _ r d hd
theorem rkS_size (r : Nat) : (rkS r).size = rkD r := by
  refine rank_ind (p := fun r => (rkS r).size = rkD r) rfl (fun r d hd ih => ?_) r
  rw [rkS_child r d hd, rkD_child r d hd, ByteArray.size_push, ih]
theorem rkD_le (m : Nat) : ∀ r, rkD r ≤ m ↔ r < tot m := by
  induction m with
  | zero =>
    intro r
    cases r with
    | zero => simp [rkD, rank_zero, tot]
    | succ n => simp [rkD, rank_succ, tot]
  | succ m ih =>
    intro r
    cases r with
    | zero => simp [rkD, rank_zero, tot]
    | succ n =>
      have h := ih (n / 3)
      have e : rkD (n + 1) = rkD (n / 3) + 1 := rank_succ _ _ _
      rw [e]
      simp only [tot]
      omega
theorem tot_pos (m : Nat) : 0 < tot m := by cases m <;> simp [tot]
theorem tot_mono {a b : Nat} (h : a ≤ b) : tot a ≤ tot b := by
  induction h with
  | refl => exact Nat.le_refl _
  | step _ ih => simp only [tot]; omega
theorem tot_6 {m : Nat} (h : m ≤ 6) : tot m ≤ 1093 := Nat.le_trans (tot_mono h) (by decide)
/-- A text that is no longest one has children, and a longest one has none. -/
theorem rkD_most {m r : Nat} (h : r < tot m) : (rkD r = m → tot m ≤ 3 * r + 1) ∧ (rkD r ≠ m → 3 * r + 4 ≤ tot m) := by
  cases m with
  | zero =>
    simp only [tot] at h ⊢
    obtain rfl : r = 0 := by omega
    exact ⟨fun _ => by omega, fun h => absurd rfl h⟩
  | succ m =>
    have h1 := rkD_le m r
    have h2 := (rkD_le (m + 1) r).2 h
    simp only [tot] at h ⊢
    constructor
    · intro e; omega
    · intro e; omega
theorem rkV_web {xs : List Int} {n : Nat} (h : Web xs n) (r : Nat) : Web (rkV xs r) n :=
  rank_ind (p := fun r => Web (rkV xs r) n) h (fun r d hd ih => by rw [rkV_child xs r d hd]; exact (card_web ih (by omega)).1) r
theorem Web.small {xs : List Int} {n : Nat} (h : Web xs n) : Small xs := fun x hx => by have := h.2.2.2.2 x hx; omega
theorem bq_push (s : ByteArray) (b : UInt8) (k : Nat) : bq (s.push b) k = if k < s.size then bq s k else if k = s.size then (b.toNat : Int) else 0 := by
  unfold bq
  have hs : (s.push b).size = s.size + 1 := ByteArray.size_push
  by_cases h1 : k < s.size
  · rw [if_pos h1, dif_pos (by omega), dif_pos h1]
    show (((s.push b).data[k]'(by show k < (s.push b).size; omega)).toNat : Int) = ((s.data[k]'h1).toNat : Int)
    congr 2
    show (s.data.push b)[k]'_ = _
    rw [Array.getElem_push_lt h1]
  · by_cases h2 : k = s.size
    · subst h2
      rw [if_neg h1, if_pos rfl, dif_pos (by omega)]
      show (((s.push b).data[s.size]'(by show s.size < (s.push b).size; omega)).toNat : Int) = _
      congr 2
      show (s.data.push b)[s.data.size]'_ = _
      rw [Array.getElem_push_eq]
    · rw [if_neg h1, if_neg h2, dif_neg (by omega)]
theorem crL_congr {xs : List Int} {s t : ByteArray} {p : Int} : ∀ (k : Nat), (∀ i, i < k → bq s i = bq t i) → crL xs s p k = crL xs t p k
  | 0, _ => rfl
  | k + 1, h => by
    simp only [crL]
    rw [crL_congr k (fun i hi => h i (by omega)), h k (by omega)]
theorem crL_rank (xs : List Int) (r : Nat) : crL xs (rkS r) 0 (rkS r).size = rkV xs r := by
  refine rank_ind (p := fun r => crL xs (rkS r) 0 (rkS r).size = rkV xs r) rfl (fun r d hd ih => ?_) r
  rw [rkS_child r d hd, rkV_child xs r d hd, ByteArray.size_push, ← ih]
  simp only [crL]
  rw [bq_push, if_neg (by omega), if_pos rfl, psB_psC]
  congr 1
  refine crL_congr _ (fun i hi => ?_)
  rw [bq_push, if_pos hi]
/-! What is met for the first time. -/
def fstB (V : Nat → List Int) (r : Nat) : Bool := (List.range r).all fun q => !(V q == V r)
theorem fstB_no {V : Nat → List Int} {r : Nat} (h : fstB V r = false) : ∃ q, q < r ∧ V q = V r := by
  unfold fstB at h
  rw [List.all_eq_false] at h
  obtain ⟨q, hq, hv⟩ := h
  exact ⟨q, List.mem_range.1 hq, by simpa using hv⟩
theorem fstB_of {V : Nat → List Int} {q r : Nat} (hq : q < r) (h : V q = V r) : fstB V r = false := by
  unfold fstB
  rw [List.all_eq_false]
  exact ⟨q, List.mem_range.2 hq, by simp [h]⟩
theorem fst_rep (V : Nat → List Int) : ∀ r, ∃ q, q ≤ r ∧ fstB V q = true ∧ V q = V r := by
  intro r
  induction r using Nat.strongRecOn with
  | ind r ih =>
    cases h : fstB V r with
    | true => exact ⟨r, Nat.le_refl _, h, rfl⟩
    | false =>
      obtain ⟨q, hq, hv⟩ := fstB_no h
      obtain ⟨p, h1, h2, h3⟩ := ih q hq
      exact ⟨p, by omega, h2, h3.trans hv⟩
def fl (V : Nat → List Int) (M : Nat) : List Nat := (List.range M).filter (fstB V)
theorem fl_succ (V : Nat → List Int) (M : Nat) : fl V (M + 1) = fl V M ++ (if fstB V M then [M] else []) := by
  unfold fl
  rw [List.range_succ, List.filter_append]
  congr 1
  by_cases h : fstB V M = true <;> simp [h]
theorem fl_mem {V : Nat → List Int} {M q : Nat} : q ∈ fl V M ↔ q < M ∧ fstB V q = true := by simp [fl]
theorem fl_length (V : Nat → List Int) (M : Nat) : (fl V M).length ≤ M := by
  have := List.length_filter_le (fstB V) (List.range M)
  simpa [fl] using this
/-- What is compared with all that was met. -/
theorem fresh_iff (V : Nat → List Int) (M : Nat) : ((fl V M).all fun q => !(V q == V M)) = fstB V M := by
  cases h : fstB V M with
  | true =>
    rw [List.all_eq_true]
    intro q hq
    have := (List.all_eq_true.1 h) q (List.mem_range.2 (fl_mem.1 hq).1)
    exact this
  | false =>
    obtain ⟨q, hq, hv⟩ := fstB_no h
    obtain ⟨p, h1, h2, h3⟩ := fst_rep V q
    rw [List.all_eq_false]
    exact ⟨p, fl_mem.2 ⟨by omega, h2⟩, by simp [h3, hv]⟩
theorem fl_skip {V : Nat → List Int} {a : Nat} : ∀ b, a ≤ b → (∀ q, a ≤ q → q < b → fstB V q = false) → fl V b = fl V a := by
  intro b
  induction b with
  | zero => intro h _; obtain rfl : a = 0 := by omega
            rfl
  | succ b ih =>
    intro hab h
    rcases Nat.lt_or_ge b a with hlt | hge
    · obtain rfl : a = b + 1 := by omega
      rfl
    · rw [fl_succ, h b hge (by omega), ih hge (fun q h1 h2 => h q h1 (by omega))]
      simp
theorem fl_same {V : Nat → List Int} {a : Nat} : ∀ b, a ≤ b → (fl V b).length ≤ (fl V a).length → ∀ q, a ≤ q → q < b → fstB V q = false := by
  intro b
  induction b with
  | zero => intro _ _ q _ h; omega
  | succ b ih =>
    intro hab hl q h1 h2
    have hab' : a ≤ b := by omega
    have mono : ∀ c, a ≤ c → (fl V a).length ≤ (fl V c).length := by
      intro c hc
      induction hc with
      | refl => exact Nat.le_refl _
      | step _ ih => rw [fl_succ, List.length_append]; omega
    have hm := mono b hab'
    rw [fl_succ, List.length_append] at hl
    have hb : fstB V b = false := by
      cases h : fstB V b with
      | false => rfl
      | true => rw [h] at hl; simp at hl; omega
    rcases Nat.lt_or_ge q b with h3 | h3
    · exact ih hab' (by omega) q h1 h3
    · obtain rfl : q = b := by omega
      exact hb
/-- A tree of ranks: what is no first one has no first ones among its children. -/
def Tree (V : Nat → List Int) : Prop := ∃ g : List Int → Nat → List Int, ∀ r d, d < 3 → V (3 * r + 1 + d) = g (V r) d
theorem rkV_tree (xs : List Int) : Tree (rkV xs) := ⟨fun v d => cardL v (psC d) 0, fun r d hd => rkV_child xs r d hd⟩
theorem Tree.child {V : Nat → List Int} (h : Tree V) {r d : Nat} (hd : d < 3) (hr : fstB V r = false) : fstB V (3 * r + 1 + d) = false := by
  obtain ⟨g, hg⟩ := h
  obtain ⟨q, hq, hv⟩ := fstB_no hr
  exact fstB_of (q := 3 * q + 1 + d) (by omega) (by rw [hg q d hd, hg r d hd, hv])
theorem fl_three {V : Nat → List Int} (h : Tree V) {r : Nat} (hr : fstB V r = false) (T : Nat) : fl V (min (3 * (r + 1) + 1) T) = fl V (min (3 * r + 1) T) := by
  refine fl_skip _ (by omega) (fun q h1 h2 => ?_)
  have h3 : 3 * r + 1 ≤ q := by omega
  have := h.child (d := q - (3 * r + 1)) (by omega) hr
  rwa [show 3 * r + 1 + (q - (3 * r + 1)) = q by omega] at this
/-- Behind the children of the first i ones. -/
def Lv (V : Nat → List Int) (T i : Nat) (L : List Nat) : Prop := ∃ B, B ≤ T ∧ i = (fl V B).length ∧ L = fl V (min (3 * B + 1) T)
theorem Lv.zero (V : Nat → List Int) {T : Nat} (hT : 0 < T) : Lv V T 0 [0] := by
  refine ⟨0, by omega, rfl, ?_⟩
  rw [show min (3 * 0 + 1) T = 0 + 1 by omega, fl_succ]
  rfl
theorem Lv.at {V : Nat → List Int} (hV : Tree V) {T i : Nat} {L : List Nat} (h : Lv V T i L) (hi : i < L.length) :
    ∃ r, L[i]? = some r ∧ r < T ∧ fstB V r = true ∧ i = (fl V r).length ∧ L = fl V (min (3 * r + 1) T) := by
  obtain ⟨B, hB, he, hL⟩ := h
  have key : ∀ k B, T - B = k → B ≤ T → i = (fl V B).length → L = fl V (min (3 * B + 1) T) → ∃ r, L[i]? = some r ∧ r < T ∧ fstB V r = true ∧ i = (fl V r).length ∧ L = fl V (min (3 * r + 1) T) := by
    intro k
    induction k with
    | zero =>
      intro B hk hB he hL
      obtain rfl : B = T := by omega
      rw [show min (3 * B + 1) B = B by omega] at hL
      rw [hL, he] at hi
      omega
    | succ k ih =>
      intro B hk hB he hL
      cases hf : fstB V B with
      | false =>
        refine ih (B + 1) (by omega) (by omega) ?_ ?_
        · rw [fl_succ, hf]; simpa using he
        · rw [fl_three hV hf]; exact hL
      | true =>
        refine ⟨B, ?_, by omega, hf, he, hL⟩
        have hM : B + 1 ≤ min (3 * B + 1) T := by omega
        have pre : ∀ c, B + 1 ≤ c → ∃ R, fl V c = fl V (B + 1) ++ R := by
          intro c hc
          induction hc with
          | refl => exact ⟨[], by simp⟩
          | step _ ih =>
            obtain ⟨R, hR⟩ := ih
            exact ⟨_, by rw [fl_succ, hR, List.append_assoc]⟩
        obtain ⟨R, hR⟩ := pre _ hM
        rw [hL, hR, fl_succ, hf, he]
        simp
  exact key _ B rfl hB he hL
theorem Lv.step {V : Nat → List Int} {T i r : Nat} (hf : fstB V r = true) (hi : i = (fl V r).length) (hT : 3 * r + 4 ≤ T) : Lv V T (i + 1) (fl V (3 * r + 1 + 3)) := by
  refine ⟨r + 1, by omega, ?_, ?_⟩
  · rw [fl_succ, hf, hi]; simp
  · rw [show min (3 * (r + 1) + 1) T = 3 * r + 1 + 3 by omega]
theorem Lv.stay {V : Nat → List Int} {T i r : Nat} {L : List Nat} (hf : fstB V r = true) (hi : i = (fl V r).length) (hr : r < T) (hT : T ≤ 3 * r + 1) (hL : L = fl V (min (3 * r + 1) T)) : Lv V T (i + 1) L := by
  refine ⟨r + 1, by omega, ?_, ?_⟩
  · rw [fl_succ, hf, hi]; simp
  · rw [hL, show min (3 * (r + 1) + 1) T = min (3 * r + 1) T by omega]
theorem Lv.done {V : Nat → List Int} (hV : Tree V) {T i : Nat} {L : List Nat} (h : Lv V T i L) (hi : L.length ≤ i) : L = fl V T := by
  obtain ⟨B, hB, he, hL⟩ := h
  rcases Nat.lt_or_ge (3 * B + 1) T with h1 | h1
  · rw [show min (3 * B + 1) T = 3 * B + 1 by omega] at hL
    rw [hL, he] at hi
    have hno := fl_same (V := V) (3 * B + 1) (by omega : B ≤ 3 * B + 1) hi
    have all : ∀ q, B ≤ q → fstB V q = false := by
      intro q
      induction q using Nat.strongRecOn with
      | ind q ih =>
        intro hq
        rcases Nat.lt_or_ge q (3 * B + 1) with h2 | h2
        · exact hno q hq h2
        · have := hV.child (r := (q - 1) / 3) (d := (q - 1) % 3) (by omega) (ih _ (by omega) (by omega))
          rwa [show 3 * ((q - 1) / 3) + 1 + (q - 1) % 3 = q by omega] at this
    rw [hL]
    exact (fl_skip T (by omega) (fun q h2 _ => all q (by omega))).symm
  · rw [hL, show min (3 * B + 1) T = T by omega]
theorem Lv.bound {V : Nat → List Int} {T i : Nat} {L : List Nat} (h : Lv V T i L) : i ≤ T ∧ L.length ≤ T ∧ ∀ q ∈ L, q < T := by
  obtain ⟨B, hB, he, hL⟩ := h
  have h1 := fl_length V B
  have h2 := fl_length V (min (3 * B + 1) T)
  refine ⟨by omega, by rw [hL]; omega, fun q hq => ?_⟩
  rw [hL] at hq
  have := (fl_mem.1 hq).1
  omega
/-! The first one that is as told. -/
theorem find_fl (V : Nat → List Int) (p : List Int → Bool) (T : Nat) : (fl V T).find? (fun r => p (V r)) = (List.range T).find? (fun r => p (V r)) := by
  induction T with
  | zero => rfl
  | succ T ih =>
    rw [fl_succ, List.find?_append, List.range_succ, List.find?_append, ih]
    cases h : fstB V T with
    | true => simp
    | false =>
      obtain ⟨q, hq, hv⟩ := fstB_no h
      cases hp : p (V T) with
      | false => simp [hp]
      | true =>
        cases hf : (List.range T).find? (fun r => p (V r)) with
        | some x => simp
        | none =>
          rw [List.find?_eq_none] at hf
          have := hf q (List.mem_range.2 hq)
          rw [hv, hp] at this
          simp at this
/-! The best one. -/
def better (sp : List Int → Int) (V : Nat → List Int) (b r : Nat) : Nat := if sp (V r) < sp (V b) then r else b
def bestOf (sp : List Int → Int) (V : Nat → List Int) (L : List Nat) : Nat := L.foldl (better sp V) 0
theorem bestOf_snoc (sp : List Int → Int) (V : Nat → List Int) (L : List Nat) (r : Nat) : bestOf sp V (L ++ [r]) = better sp V (bestOf sp V L) r := by simp [bestOf]
theorem bestOf_le (sp : List Int → Int) (V : Nat → List Int) (T : Nat) : ∀ q, q < T → sp (V (bestOf sp V (List.range T))) ≤ sp (V q) := by
  induction T with
  | zero => intro q h; omega
  | succ T ih =>
    intro q hq
    rw [List.range_succ, bestOf_snoc]
    unfold better
    rcases Nat.lt_or_ge q T with h | h
    · have := ih q h
      split <;> omega
    · obtain rfl : q = T := by omega
      split <;> omega
theorem best_fl (sp : List Int → Int) (V : Nat → List Int) (T : Nat) : bestOf sp V (fl V T) = bestOf sp V (List.range T) := by
  induction T with
  | zero => rfl
  | succ T ih =>
    rw [fl_succ, List.range_succ, bestOf_snoc]
    cases h : fstB V T with
    | true => simp only [if_true]; rw [bestOf_snoc, ih]
    | false =>
      obtain ⟨q, hq, hv⟩ := fstB_no h
      have := bestOf_le sp V T q hq
      rw [hv] at this
      simp only [Bool.false_eq_true, if_false, List.append_nil]
      rw [ih]
      unfold better
      rw [if_neg (by omega)]
theorem bestOf_lt (sp : List Int → Int) (V : Nat → List Int) {T : Nat} (hT : 0 < T) : ∀ L : List Nat, (∀ q ∈ L, q < T) → bestOf sp V L < T := by
  intro L
  unfold bestOf
  have : ∀ (L : List Nat) (b : Nat), b < T → (∀ q ∈ L, q < T) → L.foldl (better sp V) b < T := by
    intro L
    induction L with
    | nil => intro b hb _; exact hb
    | cons x L ih =>
      intro b hb h
      refine ih _ ?_ (fun q hq => h q (List.mem_cons_of_mem _ hq))
      have := h x (List.mem_cons_self ..)
      unfold better
      split <;> omega
  exact this L 0 hT
end Go.Proofs.YtefipngapgffdaaGreatDoor
