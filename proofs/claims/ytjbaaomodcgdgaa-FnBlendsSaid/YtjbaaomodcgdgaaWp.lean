/- FnBlends: the plain law: fractions sum up, a heap is off by 0 from itself; FnBlends: the plain law: the search finds the least, blends sum up, a blend of one fleece alone; Contracts: MakeFraction; Contracts: CompareFractions; FnBlends: the plain law: what the walk needs. -/
import Derived.Test.YtjbaaomodcgdgaaW3
import Derived.Test.YtjbaaomodcgdgaaWv
import Derived.Test.YtjbaaomodcgdgaaS3
import Derived.Test.YtjbaaomodcgdgaaP6
import Derived.Test.YtjbaaomodcgdgaaR7
import Derived.Test.YtjbaaomodcgdgaaE1
import Derived.Deep.RegionHeld3
import Derived.Deep.QuietTactic
import Derived.BigQuiet
namespace Go.Proofs.Ytjbaaomodcgdgaa
open Go.RowKit
set_option linter.unusedVariables false
set_option linter.unusedSimpArgs false
theorem gI_dvd (a b : Int) : gI a b ∣ a ∧ gI a b ∣ b := by
  unfold gI
  exact ⟨Int.ofNat_dvd_left.2 (Nat.gcd_dvd_left _ _), Int.ofNat_dvd_left.2 (Nat.gcd_dvd_right _ _)⟩
theorem fr_pos {x S : Int} (h0 : 0 ≤ x) (hS : 1 ≤ S) : frN x S * gI x S = x ∧ frD x S * gI x S = S ∧ 1 ≤ gI x S ∧ 0 ≤ frN x S ∧ frN x S ≤ x ∧ 1 ≤ frD x S ∧ frD x S ≤ S ∧ frN x S * S = x * frD x S := by
  have hg := gI_pos (a := x) (b := S) (by omega)
  obtain ⟨d1, d2⟩ := gI_dvd x S
  unfold frN frD dI
  rw [if_neg (by omega)]
  generalize gI x S = g at *
  obtain ⟨p, rfl⟩ := d1
  obtain ⟨q, rfl⟩ := d2
  rw [Int.mul_tdiv_cancel_left _ (by omega), Int.mul_tdiv_cancel_left _ (by omega)]
  have hp : 0 ≤ p := by
    by_cases h : 0 ≤ p
    · exact h
    · have := Int.mul_neg_of_pos_of_neg hg (show p < 0 by omega); omega
  have hq : 1 ≤ q := by
    by_cases h : 1 ≤ q
    · exact h
    · have := Int.mul_nonpos_of_nonneg_of_nonpos (a := g) (b := q) (by omega) (by omega); omega
  have m1 := Int.mul_le_mul_of_nonneg_right (show 1 ≤ g by omega) hp
  have m2 := Int.mul_le_mul_of_nonneg_right (show 1 ≤ g by omega) (show 0 ≤ q by omega)
  exact ⟨Int.mul_comm _ _, Int.mul_comm _ _, by omega, hp, by omega, hq, by omega, by rw [Int.mul_comm g p, Int.mul_assoc]⟩
theorem lcm_step {D d S : Int} (hD : 1 ≤ D) (hd : 1 ≤ d) (h1 : D ∣ S) (h2 : d ∣ S) (hS : 1 ≤ S) : 1 ≤ D.tdiv (gI D d) * d ∧ D ∣ D.tdiv (gI D d) * d ∧ d ∣ D.tdiv (gI D d) * d ∧ D.tdiv (gI D d) * d ∣ S := by
  obtain ⟨a, rfl⟩ : ∃ a : Nat, D = (a : Int) := ⟨D.toNat, by omega⟩
  obtain ⟨b, rfl⟩ : ∃ b : Nat, d = (b : Int) := ⟨d.toNat, by omega⟩
  obtain ⟨s, rfl⟩ : ∃ s : Nat, S = (s : Int) := ⟨S.toNat, by omega⟩
  have e : (a : Int).tdiv (gI a b) * b = ((Nat.lcm a b : Nat) : Int) := by
    unfold gI Nat.lcm
    rw [Int.natAbs_natCast, Int.natAbs_natCast, ← Nat.div_mul_right_comm (Nat.gcd_dvd_left a b)]
    rw [← Int.ofNat_tdiv, Int.natCast_mul]
  rw [e]
  have hp : 0 < Nat.lcm a b := Nat.lcm_pos (by omega) (by omega)
  exact ⟨by omega, Int.natCast_dvd_natCast.2 (Nat.dvd_lcm_left a b), Int.natCast_dvd_natCast.2 (Nat.dvd_lcm_right a b), Int.natCast_dvd_natCast.2 (Nat.lcm_dvd (Int.natCast_dvd_natCast.1 h1) (Int.natCast_dvd_natCast.1 h2))⟩
def sumH (H : Nat → Int) : Nat → Int
  | 0 => 0
  | k + 1 => sumH H k + H k
theorem sumH_nn {H : Nat → Int} (h : ∀ k, 0 ≤ H k) : ∀ k, 0 ≤ sumH H k
  | 0 => Int.le_refl _
  | k + 1 => by have := sumH_nn h k; have := h k; simp only [sumH]; omega
theorem sumH_mono {H : Nat → Int} (h : ∀ k, 0 ≤ H k) {i j : Nat} (hij : i ≤ j) : sumH H i ≤ sumH H j := by
  induction j with
  | zero => rw [show i = 0 by omega]; exact Int.le_refl _
  | succ j ih =>
    by_cases he : i = j + 1
    · rw [he]; exact Int.le_refl _
    · have := ih (by omega); have := h j; simp only [sumH]; omega
theorem den_all {fs : List (Int × Int)} {H : Nat → Int} {S : Int} (hS : 1 ≤ S) (h0 : ∀ k, 0 ≤ H k) (hf : ∀ k, k < 8 → nnF fs k = frN (H k) S ∧ dnF fs k = frD (H k) S) :
    ∀ k, k ≤ 8 → 1 ≤ denTo fs k ∧ denTo fs k ∣ S ∧ ∀ i, i < k → dnF fs i ∣ denTo fs k
  | 0, _ => ⟨Int.le_refl _, ⟨S, by simp [denTo]⟩, fun _ h => absurd h (by omega)⟩
  | k + 1, hk => by
    obtain ⟨i1, i2, i3⟩ := den_all hS h0 hf k (by omega)
    obtain ⟨f1, f2⟩ := hf k (by omega)
    obtain ⟨p1, p2, p3, p4, p5, p6, p7, p8⟩ := fr_pos (h0 k) hS
    have hd : frD (H k) S ∣ S := ⟨gI (H k) S, p2.symm⟩
    simp only [denTo, f2]
    obtain ⟨s1, s2, s3, s4⟩ := lcm_step i1 p6 i2 hd hS
    refine ⟨s1, s4, fun i hi => ?_⟩
    by_cases he : i = k
    · rw [he, f2]; exact s3
    · exact Int.dvd_trans (i3 i (by omega)) s2
theorem le_of_dvd1 {a b : Int} (hb : 1 ≤ b) (h : a ∣ b) : a ≤ b := Int.le_of_dvd (by omega) h
theorem mul_le_cancel {a b S : Int} (hS : 1 ≤ S) (h : a * S ≤ b * S) : a ≤ b := Int.le_of_mul_le_mul_right h (by omega)
/-- Fractions of a whole sum up to 1. -/
theorem frac_sum {fs : List (Int × Int)} {H : Nat → Int} {S : Int} (hS : 1 ≤ S) (h0 : ∀ k, 0 ≤ H k) (hf : ∀ k, k < 8 → nnF fs k = frN (H k) S ∧ dnF fs k = frD (H k) S) (hs : sumH H 8 = S) :
    (∀ k, k ≤ 8 → 1 ≤ denTo fs k ∧ denTo fs k ≤ S) ∧ (∀ k, k < 8 → 1 ≤ dnF fs k ∧ dnF fs k ≤ S) ∧ (∀ k, k ≤ 8 → 0 ≤ sfTo fs (denTo fs 8) k ∧ sfTo fs (denTo fs 8) k ≤ S) ∧ (∀ k, k < 8 → 0 ≤ nnF fs k * (denTo fs 8).tdiv (dnF fs k) ∧ nnF fs k * (denTo fs 8).tdiv (dnF fs k) ≤ S) ∧ sfTo fs (denTo fs 8) 8 = denTo fs 8 := by
  have hA := den_all hS h0 hf
  obtain ⟨d1, d2, d3⟩ := hA 8 (by omega)
  have hDS := le_of_dvd1 hS d2
  generalize denTo fs 8 = D at d1 d2 d3 hDS ⊢
  have hT : ∀ k, k < 8 → nnF fs k * D.tdiv (dnF fs k) * S = H k * D := by
    intro k hk
    obtain ⟨f1, f2⟩ := hf k hk
    obtain ⟨p1, p2, p3, p4, p5, p6, p7, p8⟩ := fr_pos (h0 k) hS
    obtain ⟨q, hq⟩ := d3 k hk
    rw [f2] at hq
    rw [f1, f2, hq, Int.mul_tdiv_cancel_left _ (by omega), Int.mul_assoc, Int.mul_comm q S, ← Int.mul_assoc, p8, Int.mul_assoc]
  have hSum : ∀ k, k ≤ 8 → sfTo fs D k * S = sumH H k * D := by
    intro k
    induction k with
    | zero => intro _; simp [sfTo, sumH]
    | succ k ih =>
      intro hk
      have := hT k (by omega)
      have := ih (by omega)
      simp only [sfTo, sumH, Int.add_mul]
      omega
  refine ⟨fun k hk => ⟨(hA k hk).1, le_of_dvd1 hS (hA k hk).2.1⟩, fun k hk => ?_, fun k hk => ?_, fun k hk => ?_, ?_⟩
  · rw [(hf k hk).2]
    have := fr_pos (h0 k) hS
    exact ⟨this.2.2.2.2.2.1, this.2.2.2.2.2.2.1⟩
  · have e := hSum k hk
    have n1 := sumH_nn h0 k
    have n2 := sumH_mono h0 hk
    rw [hs] at n2
    have m1 := Int.mul_nonneg n1 (show 0 ≤ D by omega)
    have m2 := Int.mul_le_mul_of_nonneg_right n2 (show 0 ≤ D by omega)
    constructor
    · exact mul_le_cancel hS (by rw [Int.zero_mul, e]; exact m1)
    · have := mul_le_cancel (a := sfTo fs D k) (b := D) hS (by rw [e, Int.mul_comm D S]; exact m2)
      omega
  · have e := hT k hk
    have n2 := sumH_mono h0 (show k + 1 ≤ 8 by omega)
    rw [hs] at n2
    have n3 := sumH_nn h0 k
    have n4 : H k ≤ S := by simp only [sumH] at n2; omega
    have m1 := Int.mul_nonneg (h0 k) (show 0 ≤ D by omega)
    have m2 := Int.mul_le_mul_of_nonneg_right n4 (show 0 ≤ D by omega)
    constructor
    · exact mul_le_cancel hS (by rw [Int.zero_mul, e]; exact m1)
    · have := mul_le_cancel (a := nnF fs k * D.tdiv (dnF fs k)) (b := D) hS (by rw [e, Int.mul_comm D S]; exact m2)
      omega
  · have e := hSum 8 (by omega)
    rw [hs, Int.mul_comm S D] at e
    exact Int.eq_of_mul_eq_mul_right (by omega) e
theorem offS_self (L : List Int) (X : Int) : ∀ k, offS L L X X k = 0
  | 0 => rfl
  | k + 1 => by simp [offS, offS_self L X k]
theorem fr_zero {b : Int} (hb : 1 ≤ b) : frN 0 b = 0 ∧ frD 0 b = 1 := by
  have h := fr_pos (x := 0) (S := b) (Int.le_refl _) hb
  have e : gI 0 b = b := by simp [gI]; omega
  rw [e] at h
  refine ⟨by omega, ?_⟩
  exact Int.eq_of_mul_eq_mul_right (a := b) (by omega) (by rw [h.2.1]; omega)
theorem fr_scale {c a b : Int} (hc : 1 ≤ c) (ha : 0 ≤ a) (hb : 1 ≤ b) : frN (c * a) (c * b) = frN a b ∧ frD (c * a) (c * b) = frD a b := by
  have hcb : 1 ≤ c * b := by have := Int.mul_le_mul hc hb (by omega) (by omega); omega
  have h1 := fr_pos (Int.mul_nonneg (show 0 ≤ c by omega) ha) hcb
  have h2 := fr_pos ha hb
  have e : gI (c * a) (c * b) = c * gI a b := by
    unfold gI
    rw [Int.natAbs_mul, Int.natAbs_mul, Nat.gcd_mul_left, Int.natCast_mul, show ((c.natAbs : Nat) : Int) = c by omega]
  rw [e] at h1
  obtain ⟨a1, a2, a3, _⟩ := h1
  obtain ⟨b1, b2, b3, _⟩ := h2
  constructor
  · apply Int.eq_of_mul_eq_mul_right (a := c * gI a b) (by omega)
    rw [a1, Int.mul_left_comm, b1]
  · apply Int.eq_of_mul_eq_mul_right (a := c * gI a b) (by omega)
    rw [a2, Int.mul_left_comm, b2]
/-- Fractions are in order as what they are made of. -/
theorem fr_le {x y u v : Int} (hx : 0 ≤ x) (hy : 1 ≤ y) (hu : 0 ≤ u) (hv : 1 ≤ v) (h : u * y ≤ x * v) : frN u v * frD x y ≤ frN x y * frD u v := by
  obtain ⟨a1, a2, a3, _⟩ := fr_pos hx hy
  obtain ⟨b1, b2, b3, _⟩ := fr_pos hu hv
  have hg : 1 ≤ gI x y * gI u v := by have := Int.mul_le_mul a3 b3 (by omega) (by omega); omega
  apply mul_le_cancel hg
  generalize frN u v = un at *
  generalize frD u v = ud at *
  generalize frN x y = xn at *
  generalize frD x y = xd at *
  generalize gI x y = g at *
  generalize gI u v = k at *
  subst a1 a2 b1 b2
  have e1 : un * xd * (g * k) = un * k * (xd * g) := by ac_rfl
  have e2 : xn * ud * (g * k) = xn * g * (ud * k) := by ac_rfl
  rw [e1, e2]
  exact h
end Go.Proofs.Ytjbaaomodcgdgaa
namespace Go.Proofs.Ytjbaaomodcgdgaa
open Go.RowKit
set_option linter.unusedVariables false
set_option linter.unusedSimpArgs false
/-- What is found is not above a bound. -/
def LeSt (b : Int) (st : Sta) : Prop := ∃ ps l, st = some (ps, l) ∧ l ≤ b
theorem LeSt.visit {F : List Int → Int} {b : Int} {st : Sta} (h : LeSt b st) (ps : List Int) : LeSt b (visit F ps st) := by
  obtain ⟨qs, l, rfl, hl⟩ := h
  unfold Go.Proofs.Ytjbaaomodcgdgaa.visit
  simp only
  split
  · exact ⟨_, _, rfl, by omega⟩
  · exact ⟨_, _, rfl, hl⟩
theorem LeSt.self (F : List Int → Int) (ps : List Int) (st : Sta) : LeSt (F ps) (Go.Proofs.Ytjbaaomodcgdgaa.visit F ps st) := by
  cases st with
  | none => exact ⟨_, _, rfl, Int.le_refl _⟩
  | some q =>
    obtain ⟨b, l⟩ := q
    unfold Go.Proofs.Ytjbaaomodcgdgaa.visit
    simp only
    split
    · exact ⟨_, _, rfl, Int.le_refl _⟩
    · exact ⟨_, _, rfl, by omega⟩
theorem LeSt.nbF {F : List Int → Int} {b : Int} : ∀ (d : Nat) (pre : List Int) (left : Nat) (st : Sta), LeSt b st → LeSt b (nbF F d pre left st)
  | 0, pre, left, st, h => h.visit _
  | d + 1, pre, left, st, h => by
    rw [nbF_succ]
    have : ∀ k, LeSt b (nbTo F d pre left st k) := by
      intro k
      induction k with
      | zero => exact h
      | succ k ih => rw [nbTo_succ]; exact LeSt.nbF d _ _ _ ih
    exact this _
theorem nbF_le {F : List Int → Int} : ∀ (d : Nat) (pre : List Int) (left : Nat) (st : Sta) (qs : List Nat), qs.length = d + 1 → qs.sum = left → LeSt (F (pre ++ qs.map (fun (x : Nat) => (x : Int)))) (nbF F d pre left st)
  | 0, pre, left, st, qs, hl, hs => by
    match qs, hl with
    | [q], _ =>
      have : q = left := by simpa using hs
      subst this
      exact LeSt.self F _ st
  | d + 1, pre, left, st, qs, hl, hs => by
    match qs, hl with
    | q :: qs, hl =>
      rw [List.sum_cons] at hs
      rw [nbF_succ]
      have h1 : LeSt (F (pre ++ (q :: qs).map (fun (x : Nat) => (x : Int)))) (nbTo F d pre left st (q + 1)) := by
        rw [nbTo_succ]
        have := nbF_le (F := F) d (pre ++ [(q : Int)]) (left - q) (nbTo F d pre left st q) qs (by simpa using hl) (by omega)
        rw [List.append_assoc] at this
        exact this
      have h2 : ∀ k, LeSt (F (pre ++ (q :: qs).map (fun (x : Nat) => (x : Int)))) (nbTo F d pre left st (q + 1 + k)) := by
        intro k
        induction k with
        | zero => exact h1
        | succ k ih => rw [← Nat.add_assoc, nbTo_succ]; exact LeSt.nbF d _ _ _ ih
      have := h2 (left - q)
      rw [show q + 1 + (left - q) = left + 1 by omega] at this
      exact this
/-- Whatever is found sums up. -/
def SumSt (T : Int) (st : Sta) : Prop := ∀ ps l, st = some (ps, l) → ps.sum = T
theorem SumSt.visit {F : List Int → Int} {T : Int} {st : Sta} (h : SumSt T st) {ps : List Int} (hp : ps.sum = T) : SumSt T (visit F ps st) := by
  intro qs l e
  cases st with
  | none =>
    simp only [Go.Proofs.Ytjbaaomodcgdgaa.visit, Option.some.injEq, Prod.mk.injEq] at e
    obtain ⟨rfl, rfl⟩ := e
    exact hp
  | some q =>
    obtain ⟨b, k⟩ := q
    simp only [Go.Proofs.Ytjbaaomodcgdgaa.visit] at e
    split at e
    · simp only [Option.some.injEq, Prod.mk.injEq] at e
      obtain ⟨rfl, rfl⟩ := e
      exact hp
    · exact h qs l e
theorem nbF_sum {F : List Int → Int} {T : Int} : ∀ (d : Nat) (pre : List Int) (left : Nat) (st : Sta), pre.sum + (left : Int) = T → SumSt T st → SumSt T (nbF F d pre left st)
  | 0, pre, left, st, hp, h => h.visit (by rw [List.sum_append]; simpa using hp)
  | d + 1, pre, left, st, hp, h => by
    rw [nbF_succ]
    have : ∀ k, k ≤ left + 1 → SumSt T (nbTo F d pre left st k) := by
      intro k
      induction k with
      | zero => intro _; exact h
      | succ k ih =>
        intro hk
        rw [nbTo_succ]
        exact nbF_sum d _ _ _ (by rw [List.sum_append]; simp; omega) (ih (by omega))
    exact this _ (Nat.le_refl _)
/-- The heaps' grams. -/
theorem sum8 {L : List Int} (h : L.length = 8) : L.sum = hsL L := by
  obtain ⟨a0, a1, a2, a3, a4, a5, a6, a7, rfl⟩ := eight_of h
  simp [hsL, hS]
  omega
theorem sumH_hs (L : List Int) : sumH (fun k => L.getD k 0) 8 = hsL L := by
  simp only [sumH, hsL, hS]
  omega
theorem heap13 {L : List Int} (h : ∀ y ∈ L, 0 ≤ y ∧ y ≤ 13) : heapOk L = true := by
  simp only [heapOk, List.all_eq_true, inB, decide_eq_true_eq]
  intro y hy
  have := h y hy
  omega
theorem getD13 {L : List Int} (h : ∀ y ∈ L, 0 ≤ y ∧ y ≤ 13) (k : Nat) : 0 ≤ L.getD k 0 ∧ L.getD k 0 ≤ 13 := by
  rw [List.getD_eq_getElem?_getD]
  by_cases hk : k < L.length
  · rw [List.getElem?_eq_getElem hk]
    exact h _ (List.getElem_mem hk)
  · rw [List.getElem?_eq_none (by omega)]; simp
structure Wan (W : List Int) : Prop where
  len : W.length = 8
  bd : ∀ y ∈ W, 0 ≤ y ∧ y ≤ 13
  lo : 1 ≤ W.sum
  hi : W.sum ≤ 97
theorem Wan.hs {W : List Int} (h : Wan W) : heapOk W = true ∧ 1 ≤ hsL W ∧ hsL W ≤ 97 ∧ smC W = 0 := by
  have e := sum8 h.len
  have h1 := h.lo
  have h2 := h.hi
  have h3 := heap13 h.bd
  refine ⟨h3, by omega, by omega, ?_⟩
  unfold smC
  rw [if_neg (by rw [h3]; simp), if_pos (by omega)]
theorem FlD.wan {x : Int × List Int} (h : FlD x) : Wan x.2 := ⟨h.2.1, h.2.2.1, h.2.2.2.1, h.2.2.2.2⟩
theorem fl_facts {xs : List (Int × List Int)} (h : ∀ x ∈ xs, FlD x) : FlOk xs ∧ flB xs = true ∧ hvB xs = true ∧ nzB xs = true := by
  refine ⟨fun x hx => ?_, ?_, ?_, ?_⟩
  · obtain ⟨h1, h2, h3, h4, h5⟩ := h x hx
    refine ⟨?_, h2, fun y hy => ?_⟩
    · simp [Lit.wf, IntKind.min, IntKind.max, IntKind.signed, IntKind.bits]; omega
    · have := h3 y hy
      simp [Lit.wf, IntKind.min, IntKind.max, IntKind.signed, IntKind.bits]; omega
  · simp only [flB, List.all_eq_true]
    intro x hx
    have h1 := h x hx
    simp only [fleeceOk, inB, Bool.and_eq_true, decide_eq_true_eq]
    exact ⟨h1.1, h1.wan.hs.1⟩
  · simp only [hvB, List.all_eq_true, decide_eq_true_eq]
    intro x hx
    have := (h x hx).wan.hs.2.2.1
    omega
  · simp only [nzB, List.all_eq_true, decide_eq_true_eq]
    intro x hx
    have := (h x hx).wan.hs.2.1
    omega
theorem bdC_ok {xs : List (Int × List Int)} (h : ∀ x ∈ xs, FlD x) (h4 : xs.length ≤ 4) {b : Bool} (hb : b = true) : bdC xs b = 0 := by
  obtain ⟨_, f1, f2, f3⟩ := fl_facts h
  have : flC xs b = 0 := by unfold flC; rw [f1, if_pos rfl, hb, if_pos rfl, if_pos (by omega)]
  unfold bdC
  rw [this, if_pos rfl, f2, if_pos rfl, f3, if_pos rfl]
theorem nbC_is {xs : List (Int × List Int)} {W : List Int} {P : Int} (h : ∀ x ∈ xs, FlD x) (h4 : xs.length ≤ 4) (hW : Wan W) (hP : 1 ≤ P ∧ P ≤ 5) : nbC xs W P = if xs.length = 0 then 6 else 0 := by
  obtain ⟨w1, w2, w3, _⟩ := hW.hs
  have e := bdC_ok h h4 (b := inB P 1 8) (by simp [inB]; omega)
  unfold nbC nbC1
  rw [w1, if_pos rfl, e]
  rw [if_neg (show ¬ (((0 : Int) = 0 ∨ (0 : Int) = 6) ∧ 100 < hsL W) by omega)]
  by_cases h0 : xs.length = 0
  · rw [if_pos h0, if_pos ⟨rfl, .inl h0⟩]
  · rw [if_neg h0, if_neg (by omega)]
theorem nb_sum {xs : List (Int × List Int)} {W : List Int} {P : Int} (hP : 0 ≤ P) {ps : List Int} {l : Int} (h : nbSt xs W P = some (ps, l)) : ps.sum = P := by
  unfold nbSt at h
  have := nbF_sum (F := fun ps => offT xs ps (mulTo xs xs.length) (hsL W) P W 8) (T := P) (xs.length - 1) [] P.toNat none (by simp; omega) (fun _ _ e => by cases e)
  exact this ps l h
/-- Each heap's grams divide their multiple. -/
theorem mul_dvd {xs : List (Int × List Int)} (h : ∀ k, 1 ≤ gA xs k ∧ gA xs k ≤ 100) : ∀ k, 1 ≤ mulTo xs k ∧ ∀ i, i < k → gA xs i ∣ mulTo xs k
  | 0 => ⟨Int.le_refl _, fun _ h => absurd h (by omega)⟩
  | k + 1 => by
    obtain ⟨i1, i2⟩ := mul_dvd h k
    have hg := h k
    have hS : 1 ≤ mulTo xs k * gA xs k := by have := Int.mul_le_mul i1 hg.1 (by omega) (by omega); omega
    obtain ⟨s1, s2, s3, _⟩ := lcm_step i1 hg.1 (Int.dvd_mul_right _ _) (Int.dvd_mul_left _ _) hS
    refine ⟨s1, fun i hi => ?_⟩
    by_cases he : i = k
    · rw [he]; exact s3
    · exact Int.dvd_trans (i2 i (by omega)) s2
/-- Parts of one fleece alone. -/
def one1 (n i : Nat) (P : Nat) : List Nat := (List.replicate n 0).set i P
def onI (n i : Nat) (P : Int) : List Int := (List.replicate n 0).set i P
theorem one_map (n i P : Nat) : (one1 n i P).map (fun (x : Nat) => (x : Int)) = onI n i (P : Int) := by
  unfold one1 onI
  rw [List.map_set, List.map_replicate]
  rfl
theorem one_sum {n i : Nat} (hi : i < n) (P : Nat) : (one1 n i P).sum = P := by
  unfold one1
  rw [List.set_eq_take_append_cons_drop, if_pos (by simpa using hi)]
  simp [List.take_replicate, List.drop_replicate]
theorem onI_sum {n i : Nat} (hi : i < n) (P : Int) : (onI n i P).sum = P := by
  unfold onI
  rw [List.set_eq_take_append_cons_drop, if_pos (by simpa using hi)]
  simp [List.take_replicate, List.drop_replicate]
theorem onI_gd {n i : Nat} (hi : i < n) (P : Int) (k : Nat) : gd (onI n i P) k = if k = i then P else 0 := by
  unfold gd onI
  rw [List.getD_eq_getElem?_getD, List.getElem?_set]
  by_cases h : i = k
  · subst h
    rw [if_pos rfl, if_pos (by simpa using hi), if_pos rfl]; rfl
  · rw [if_neg h, if_neg (fun e => h e.symm), List.getElem?_replicate]
    split <;> rfl
theorem onI_bd {n i : Nat} {P : Int} (hP : 0 ≤ P ∧ P ≤ 8) : ∀ x ∈ onI n i P, 0 ≤ x ∧ x ≤ 8 := by
  intro x hx
  unfold onI at hx
  rcases List.mem_or_eq_of_mem_set hx with h | h
  · rw [List.eq_of_mem_replicate h]; omega
  · rw [h]; exact hP
theorem sha_one {xs : List (Int × List Int)} {n i : Nat} (hi : i < n) (P M : Int) (j : Nat) : ∀ k, shaTo xs (onI n i P) M j k = if i < k then P * vA xs j i * M.tdiv (gA xs i) else 0
  | 0 => by simp [shaTo]
  | k + 1 => by
    simp only [shaTo, sha_one hi P M j k, onI_gd hi]
    by_cases h1 : k = i
    · subst h1; simp
    · by_cases h2 : i < k
      · rw [if_pos h2, if_neg h1, if_pos (by omega)]; simp
      · rw [if_neg h2, if_neg h1, if_neg (by omega)]; simp
theorem offT_one {xs : List (Int × List Int)} {i : Nat} (hi : i < xs.length) {M q P G : Int} {W : List Int} (hM : M = gA xs i * q) (hg : 1 ≤ gA xs i) (hq : 0 ≤ q) (hP : 0 ≤ P) {x : Int × List Int} (hx : xs[i]? = some x) :
    ∀ j, offT xs (onI xs.length i P) M G P W j = P * q * offS x.2 W (hsL x.2) G j
  | 0 => by simp [offT, offS]
  | j + 1 => by
    have ih := offT_one hi hM hg hq hP hx (G := G) (W := W) j
    have e1 : M.tdiv (gA xs i) = q := by rw [hM, Int.mul_tdiv_cancel_left _ (by omega)]
    have e2 : offD xs (onI xs.length i P) M G P W j = P * q * (x.2.getD j 0 * G - W.getD j 0 * hsL x.2) := by
      unfold offD
      rw [sha_one hi, if_pos hi, e1, vA_at hx, hM, gA_at hx, Int.mul_sub]
      congr 1
      · ac_rfl
      · ac_rfl
    have e3 : (((P * q * (x.2.getD j 0 * G - W.getD j 0 * hsL x.2)).natAbs : Nat) : Int) = P * q * ((x.2.getD j 0 * G - W.getD j 0 * hsL x.2).natAbs : Nat) := by
      rw [Int.natAbs_mul, Int.natCast_mul, Int.natAbs_of_nonneg (Int.mul_nonneg hP hq)]
    simp only [offT, offS]
    rw [ih, e2, e3, Int.mul_add]
end Go.Proofs.Ytjbaaomodcgdgaa
namespace Go.Proofs.Ytjbaaomodcgdgaa
open Go.RowKit
set_option linter.unusedVariables false
set_option linter.unusedSimpArgs false
def bil (n : Int) : Bool := inB n (-1000000000) 1000000000
def mfC (a b : Int) : Int := if bil a = false ∨ bil b = false then 2 else if b = 0 then 4 else 0
def mfN (a b : Int) : Int := if mfC a b = 0 then frN a b else 0
def mfD (a b : Int) : Int := if mfC a b = 0 then frD a b else 0
theorem bil_mid {a : Int} (h : bil a = true) : Mid a ∧ -1000000000 ≤ a ∧ a ≤ 1000000000 := by
  have : -1000000000 ≤ a ∧ a ≤ 1000000000 := by simpa [bil, inB] using h
  exact ⟨by unfold Mid; omega, this⟩
theorem gI_neg (a b : Int) : gI (-a) (-b) = gI a b := by simp [gI]
theorem frN_neg {a b : Int} (h : b < 0) : frN (-a) (-b) = frN a b := by
  simp only [frN, dI, h, if_true, gI_neg, show ¬ -b < 0 from by omega, if_false, Int.tdiv_neg, Int.neg_tdiv]
theorem frD_neg {a b : Int} (h : b < 0) : frD (-a) (-b) = frD a b := by
  simp only [frD, dI, h, if_true, gI_neg, show ¬ -b < 0 from by omega, if_false, Int.tdiv_neg, Int.neg_tdiv]
theorem isNumber_any (n : Int) (w : World) : Calls Try.prog 60 #[.int .i64 n] w fun e w' => e = .returned (.bool (bil n)) ∧ w = w' := by
  go_enter Try.func60, Try.ntmps60
  go_wp2_with (go_at_call 37; (refine (within_any _ _ _ _).mono ?_); rintro e w' ⟨rfl, rfl⟩)
  go_ret
  exact ⟨rfl, rfl⟩
theorem iMakeFraction (a b : Int) (w : World) (wa : -9223372036854775808 ≤ a ∧ a ≤ 9223372036854775807) (wb : -9223372036854775808 ≤ b ∧ b ≤ 9223372036854775807) :
    Calls Try.prog 21 #[.int .i64 a, .int .i64 b] w fun e w' => e = .returned (.tuple #[Fr (mfN a b) (mfD a b), .int .i64 (mfC a b)]) ∧ Below w.heap.size w w' := by
  cases ha : bil a
  · go_enter Try.func21, Try.ntmps21
    go_wp2_with (go_at_call 60; (refine (isNumber_any _ _).mono ?_); rintro e w' ⟨rfl, rfl⟩; try rw [ha])
    go_returns
    exact ⟨by simp [mfN, mfD, mfC, ha], by go_grown⟩
  cases hb : bil b
  · go_enter Try.func21, Try.ntmps21
    go_wp2_with (go_at_call 60; (refine (isNumber_any _ _).mono ?_); rintro e w' ⟨rfl, rfl⟩; first | rw [ha] | rw [hb])
    go_returns
    exact ⟨by simp [mfN, mfD, mfC, ha, hb], by go_grown⟩
  obtain ⟨ma, xa⟩ := bil_mid ha
  obtain ⟨mb, xb⟩ := bil_mid hb
  by_cases h0 : b = 0
  · subst h0
    go_enter Try.func21, Try.ntmps21
    go_wp2_with (go_at_call 60; (refine (isNumber_any _ _).mono ?_); rintro e w' ⟨rfl, rfl⟩; first | rw [ha] | rw [hb])
    go_returns
    exact ⟨by simp [mfN, mfD, mfC, ha, hb], by go_grown⟩
  · have q1 : (b == 0) = false := by simpa using h0
    go_enter Try.func21, Try.ntmps21
    go_wp2_with (go_at_call 60; (refine (isNumber_any _ _).mono ?_); rintro e w' ⟨rfl, rfl⟩; first | rw [ha] | rw [hb])
    refine (fraction_any _ _ _ ma mb h0).mono ?_
    rintro e w1 ⟨rfl, hb1⟩
    have r1 : Row w1 w.heap.size 34 [.int .i64 0, .int .i64 0] := (Row.alloc w [.int .i64 0, .int .i64 0] 34).below hb1
    have c1 := r1.cell 0
    have c2 := r1.cell 1
    have f1 := r1.frozen 0
    have f2 := r1.frozen 1
    have s0 := fun v => (r1.set 0 v).cell 0
    have s1 := fun v u => ((r1.set 0 v).set 1 u).cell 1
    simp at c1 c2 s0 s1
    have hB := below_then (B := w.heap.size) (below_alloc1 w _) (by go_size) hb1
    clear hb1 r1
    go_wp2_with fail
    refine bodyPost_ret (v := .tuple #[Fr (mfN a b) (mfD a b), .int .i64 (mfC a b)]) (by simp [results, Try.results21, go_sem, s0, s1, mfN, mfD, mfC, ha, hb, h0]) rfl ⟨rfl, by go_grown⟩
end Go.Proofs.Ytjbaaomodcgdgaa
namespace Go.Proofs.Ytjbaaomodcgdgaa
open Go.RowKit
set_option linter.unusedVariables false
set_option linter.unusedSimpArgs false
def frOk (a b : Int) : Bool := bil a && (inB b 1 1000000000 && decide (gI a b = 1))
def cmpI (x y : Int) : Int := if x < y then -1 else if y < x then 1 else 0
def cfC (a b c d : Int) : Int := if frOk a b && frOk c d then 0 else 1
def cfV (a b c d : Int) : Int := if frOk a b && frOk c d then cmpI (a * d) (c * b) else 0
theorem fr_one {a b : Int} (h : gI a b = 1) (hb : 0 < b) : frN a b = a ∧ frD a b = b := by
  simp [frN, frD, dI, h, show ¬ b < 0 from by omega]
theorem fr_not {a b : Int} (h : gI a b ≠ 1) (hb : 0 < b) : frD a b ≠ b := by
  have hp := gI_pos (a := a) (b := b) (by omega)
  have : frD a b = b / gI a b := by
    simp only [frD, dI, show ¬ b < 0 from by omega, if_false]
    exact Int.tdiv_eq_ediv_of_nonneg (by omega)
  rw [this]
  have : b / gI a b < b := Int.ediv_lt_self_of_pos_of_ne_one hb (by omega)
  omega
theorem isNaN_any (x : Int) (w : World) : Calls Try.prog 79 #[.int .i64 x] w fun e w' => e = .returned (.bool false) ∧ w = w' := by
  go_enter Try.func79, Try.ntmps79
  go_wp2
  go_ret
  exact ⟨by simp, rfl⟩
theorem compare_any (x y : Int) (w : World) : Calls Try.prog 62 #[.int .i64 x, .int .i64 y] w fun e w' => e = .returned (.int .i64 (cmpI x y)) ∧ w = w' := by
  by_cases h1 : x < y <;> by_cases h2 : y < x
  all_goals
    go_enter Try.func62, Try.ntmps62
    go_wp2_with (go_at_call 79; (refine (isNaN_any _ _).mono ?_); rintro e w' ⟨rfl, rfl⟩)
    go_ret
    exact ⟨ret_int (by unfold cmpI; split <;> (try split) <;> omega), rfl⟩
theorem isFraction_any (a b : Int) (w : World) (wa : -9223372036854775808 ≤ a ∧ a ≤ 9223372036854775807) (wb : -9223372036854775808 ≤ b ∧ b ≤ 9223372036854775807) : Calls Try.prog 61 #[Fr a b] w fun e w' => e = .returned (.bool (frOk a b)) ∧ Below w.heap.size w w' := by
  have X0 := Row.alloc w [.int .i64 a, .int .i64 b] 34
  cases ha : bil a
  · go_enter Try.func61, Try.ntmps61
    go_wp2_with (go_at_call 60; (refine (isNumber_any _ _).mono ?_); rintro e w' ⟨rfl, rfl⟩; rw [ha])
    go_ret
    exact ⟨by simp [frOk, ha], by go_grown⟩
  cases hb : inB b 1 1000000000
  · go_enter Try.func61, Try.ntmps61
    go_wp2_with (first
      | (go_at_call 60; (refine (isNumber_any _ _).mono ?_); rintro e w' ⟨rfl, rfl⟩; rw [ha])
      | (go_at_call 37; (refine (within_any _ _ _ _).mono ?_); rintro e w' ⟨rfl, rfl⟩; rw [hb]))
    go_ret
    exact ⟨by simp [frOk, ha, hb], by go_grown⟩
  obtain ⟨ma, xa⟩ := bil_mid ha
  have xb : 1 ≤ b ∧ b ≤ 1000000000 := by simpa [inB] using hb
  have mb : Mid b := by unfold Mid; omega
  by_cases hg : gI a b = 1
  all_goals
    go_enter Try.func61, Try.ntmps61
    go_wp2_with (first
      | (go_at_call 60; (refine (isNumber_any _ _).mono ?_); rintro e w' ⟨rfl, rfl⟩; rw [ha])
      | (go_at_call 37; (refine (within_any _ _ _ _).mono ?_); rintro e w' ⟨rfl, rfl⟩; rw [hb])
      | (go_at_call 66; (refine (divisor_any _ _ _ ma mb).mono ?_); rintro e w1 ⟨rfl, hb1⟩))
    go_ret
    exact ⟨by simp [frOk, ha, hb, hg], below_then (below_alloc1 w _) (below_alloc1 w _).size hb1⟩
theorem iCompareFractions (a b c d : Int) (w : World) (wa : -9223372036854775808 ≤ a ∧ a ≤ 9223372036854775807) (wb : -9223372036854775808 ≤ b ∧ b ≤ 9223372036854775807) (wc : -9223372036854775808 ≤ c ∧ c ≤ 9223372036854775807) (wd : -9223372036854775808 ≤ d ∧ d ≤ 9223372036854775807) :
    Calls Try.prog 22 #[Fr a b, Fr c d] w fun e w' => e = .returned (.tuple #[.int .i64 (cfV a b c d), .int .i64 (cfC a b c d)]) ∧ Below w.heap.size w w' := by
  have X0 := (Row.alloc w [.int .i64 a, .int .i64 b] 34).below (below_alloc1 _ (.cells #[.int .i64 c, .int .i64 d] 34))
  have X1 := Row.alloc (w.alloc (.cells #[.int .i64 a, .int .i64 b] 34)) [.int .i64 c, .int .i64 d] 34
  have HB := ((Below.refl w.heap.size w).alloc (Nat.le_refl _) (.cells #[.int .i64 a, .int .i64 b] 34)).alloc (by simp) (.cells #[.int .i64 c, .int .i64 d] 34)
  cases h1 : frOk a b
  · go_enter Try.func22, Try.ntmps22
    go_wp2_with fail
    refine (isFraction_any a b _ wa wb).mono ?_
    rintro e w1 ⟨rfl, hb1⟩
    rw [h1]
    go_wp2_with fail
    go_ret2
    exact ⟨by simp [cfV, cfC, h1], below_then HB HB.size hb1⟩
  cases h2 : frOk c d
  · go_enter Try.func22, Try.ntmps22
    go_wp2_with fail
    refine (isFraction_any a b _ wa wb).mono ?_
    rintro e w1 ⟨rfl, hb1⟩
    rw [h1]
    have hz := hb1.size
    simp only [World.size_alloc] at hz
    replace X1 := X1.below hb1
    have e0 := X1.cell 0
    have e1 := X1.cell 1
    simp only [List.getElem?_cons_zero, List.getElem?_cons_succ, World.size_alloc] at e0 e1
    replace HB := below_then HB HB.size hb1
    clear hb1
    go_wp2_with fail
    refine (isFraction_any c d _ wc wd).mono ?_
    rintro e w2 ⟨rfl, hb1⟩
    rw [h2]
    go_wp2_with fail
    go_ret2
    exact ⟨by simp [cfV, cfC, h1, h2], below_then HB HB.size hb1⟩
  have k1 : (-1000000000 ≤ a ∧ a ≤ 1000000000) ∧ (1 ≤ b ∧ b ≤ 1000000000) := by
    simp only [frOk, bil, inB, Bool.and_eq_true, decide_eq_true_eq] at h1
    exact ⟨h1.1, h1.2.1⟩
  have k2 : (-1000000000 ≤ c ∧ c ≤ 1000000000) ∧ (1 ≤ d ∧ d ≤ 1000000000) := by
    simp only [frOk, bil, inB, Bool.and_eq_true, decide_eq_true_eq] at h2
    exact ⟨h2.1, h2.2.1⟩
  have p1 : -1000000000000000000 ≤ a * d ∧ a * d ≤ 1000000000000000000 := by
    constructor
    · have := Int.mul_le_mul_of_nonneg_right k1.1.1 (show 0 ≤ d by omega)
      omega
    · have := Int.mul_le_mul_of_nonneg_right k1.1.2 (show 0 ≤ d by omega)
      omega
  have p2 : -1000000000000000000 ≤ c * b ∧ c * b ≤ 1000000000000000000 := by
    constructor
    · have := Int.mul_le_mul_of_nonneg_right k2.1.1 (show 0 ≤ b by omega)
      omega
    · have := Int.mul_le_mul_of_nonneg_right k2.1.2 (show 0 ≤ b by omega)
      omega
  have v1 : IntKind.i64.wrap (a * d) = a * d := IntWalk.i64_in _ (by omega)
  have v2 : IntKind.i64.wrap (c * b) = c * b := IntWalk.i64_in _ (by omega)
  go_enter Try.func22, Try.ntmps22
  go_wp2_with fail
  refine (isFraction_any a b _ wa wb).mono ?_
  rintro e w1 ⟨rfl, hb1⟩
  rw [h1]
  have hz := hb1.size
  simp only [World.size_alloc] at hz
  replace X0 := X0.below hb1
  replace X1 := X1.below hb1
  have e0 := X1.cell 0
  have e1 := X1.cell 1
  simp only [List.getElem?_cons_zero, List.getElem?_cons_succ, World.size_alloc] at e0 e1
  replace HB := below_then HB HB.size hb1
  clear hb1
  go_wp2_with fail
  refine (isFraction_any c d _ wc wd).mono ?_
  rintro e w2 ⟨rfl, hb1⟩
  rw [h2]
  clear e0 e1
  have hz2 := hb1.size
  replace X0 := X0.below hb1
  replace X1 := X1.below hb1
  have e0 := X1.cell 0
  have e1 := X1.cell 1
  have d0 := X0.cell 0
  have d1 := X0.cell 1
  simp only [List.getElem?_cons_zero, List.getElem?_cons_succ, World.size_alloc] at e0 e1 d0 d1
  replace HB := below_then HB HB.size hb1
  clear hb1
  go_wp2_with fail
  refine (compare_any _ _ _).mono ?_
  rintro e w3 ⟨rfl, rfl⟩
  go_wp2_with fail
  go_ret2
  exact ⟨by simp [cfV, cfC, h1, h2], HB⟩
end Go.Proofs.Ytjbaaomodcgdgaa
namespace Go.Proofs.Ytjbaaomodcgdgaa
open Go.RowKit
set_option linter.unusedVariables false
set_option linter.unusedSimpArgs false
theorem shTo_at (L : List Int) (S : Int) : ∀ {n k : Nat}, k < n → (shTo L S n)[k]? = some (frN (L.getD k 0) S, frD (L.getD k 0) S)
  | n + 1, k, h => by
    simp only [shTo]
    by_cases hk : k < n
    · rw [List.getElem?_append_left (by rw [shTo_len]; exact hk)]
      exact shTo_at L S hk
    · obtain rfl : k = n := by omega
      rw [List.getElem?_append_right (by rw [shTo_len]; omega), shTo_len]
      simp
theorem blTo_at (xs : List (Int × List Int)) (ps : List Int) (m : Nat) : ∀ {n k : Nat}, k < n → (blTo xs ps m n)[k]? = some (frN (shaTo xs ps (mulTo xs m) k m) (ps.sum * mulTo xs m), frD (shaTo xs ps (mulTo xs m) k m) (ps.sum * mulTo xs m))
  | n + 1, k, h => by
    simp only [blTo]
    by_cases hk : k < n
    · rw [List.getElem?_append_left (by rw [blTo_len]; exact hk)]
      exact blTo_at xs ps m hk
    · obtain rfl : k = n := by omega
      rw [List.getElem?_append_right (by rw [blTo_len]; omega), blTo_len]
      simp
/-- What FnBlends asks of a list of fractions. -/
structure Whole (fs : List (Int × Int)) : Prop where
  len : fs.length = 8
  den : ∀ k, k ≤ 8 → 1 ≤ denTo fs k ∧ denTo fs k ≤ 500000000
  ds : ∀ k, k < 8 → 1 ≤ dnF fs k ∧ dnF fs k ≤ 500000000
  sf : ∀ k, k ≤ 8 → 0 ≤ sfTo fs (denTo fs 8) k ∧ sfTo fs (denTo fs 8) k ≤ 500000000
  tm : ∀ k, k < 8 → 0 ≤ nnF fs k * (denTo fs 8).tdiv (dnF fs k) ∧ nnF fs k * (denTo fs 8).tdiv (dnF fs k) ≤ 500000000
  all : sfTo fs (denTo fs 8) 8 = denTo fs 8
theorem whole_of {fs : List (Int × Int)} {H : Nat → Int} {S : Int} (hl : fs.length = 8) (hS : 1 ≤ S ∧ S ≤ 500000000) (h0 : ∀ k, 0 ≤ H k) (hf : ∀ k, k < 8 → fs[k]? = some (frN (H k) S, frD (H k) S)) (hs : sumH H 8 = S) : Whole fs := by
  obtain ⟨h1, h2, h3, h4, h5⟩ := frac_sum (fs := fs) hS.1 h0 (fun k hk => fF_of (hf k hk)) hs
  exact ⟨hl, fun k hk => ⟨(h1 k hk).1, by have := h1 k hk; omega⟩, fun k hk => ⟨(h2 k hk).1, by have := h2 k hk; omega⟩, fun k hk => ⟨(h3 k hk).1, by have := h3 k hk; omega⟩, fun k hk => ⟨(h4 k hk).1, by have := h4 k hk; omega⟩, h5⟩
theorem shR_whole {W : List Int} (h : Wan W) : Whole (shR W) := by
  obtain ⟨h1, h2, h3, h4⟩ := h.hs
  rw [shR_0 h4]
  exact whole_of (H := fun k => W.getD k 0) (S := hsL W) (shTo_len _ _ _) (by omega) (fun k => (getD13 h.bd k).1) (fun k hk => shTo_at W _ hk) (sumH_hs W)
/-- The lists of this law. -/
structure Lst (xs : List (Int × List Int)) : Prop where
  fl : ∀ x ∈ xs, FlD x
  n4 : xs.length ≤ 4
theorem Lst.gA {xs : List (Int × List Int)} (h : Lst xs) : ∀ k, 1 ≤ gA xs k ∧ gA xs k ≤ 100 := gA_bd (fl_facts h.fl).2.2.1 (fl_facts h.fl).2.2.2
theorem pow4 {k : Nat} (h : k ≤ 4) : (100 : Int) ^ k ≤ 100000000 := by
  match k, h with
  | 0, _ => decide
  | 1, _ => decide
  | 2, _ => decide
  | 3, _ => decide
  | 4, _ => decide
theorem Lst.mul {xs : List (Int × List Int)} (h : Lst xs) : 1 ≤ mulTo xs xs.length ∧ mulTo xs xs.length ≤ 100000000 := by
  have := mulTo_bd h.gA xs.length
  have := pow4 h.n4
  omega
theorem Lst.bl {xs : List (Int × List Int)} (h : Lst xs) {ps : List Int} (hl : ps.length = xs.length) (hb : ∀ x ∈ ps, 0 ≤ x ∧ x ≤ 8) (hs : 1 ≤ ps.sum) : blC xs ps = 0 := by
  apply bdC_ok h.fl h.n4
  unfold pfB prC
  have : (ps.all fun x => inB x 0 8) = true := by
    simp only [List.all_eq_true, inB, decide_eq_true_eq]
    exact hb
  rw [this, if_pos rfl]
  simp [hl]
  omega
/-- Parts of all fleeces sum up to the parts' sum. -/
theorem gd_sum (ps : List Int) : ∀ n, n = ps.length → sumH (fun k => gd ps k) n = ps.sum := by
  have : ∀ (ps : List Int) (n : Nat), n ≤ ps.length → sumH (fun k => gd ps k) n = (ps.take n).sum := by
    intro ps n
    induction n with
    | zero => intro _; simp [sumH]
    | succ n ih =>
      intro hn
      have hx : ps[n]? = some (ps[n]'(by omega)) := List.getElem?_eq_getElem _
      simp only [sumH]
      rw [ih (by omega), List.take_add_one, hx, List.sum_append, gd_of hx]
      simp
  intro n hn
  rw [this ps n (by omega), hn, List.take_length]
theorem sha_all {xs : List (Int × List Int)} (h : Lst xs) (ps : List Int) {M : Int} : ∀ n, n ≤ xs.length → (∀ i, i < n → Go.Proofs.Ytjbaaomodcgdgaa.gA xs i ∣ M) → sumH (fun j => shaTo xs ps M j n) 8 = sumH (fun k => gd ps k) n * M
  | 0, _, _ => by simp [sumH, shaTo]
  | n + 1, hn, hd => by
    have ih := sha_all h ps (M := M) n (by omega) (fun i hi => hd i (by omega))
    obtain ⟨q, hq⟩ := hd n (by omega)
    have hg := h.gA n
    have hx : xs[n]? = some (xs[n]'(by omega)) := List.getElem?_eq_getElem _
    have e1 : M.tdiv (Go.Proofs.Ytjbaaomodcgdgaa.gA xs n) = q := by rw [hq, Int.mul_tdiv_cancel_left _ (by omega)]
    have e2 : sumH (fun j => vA xs j n) 8 = Go.Proofs.Ytjbaaomodcgdgaa.gA xs n := by
      rw [gA_at hx, ← sumH_hs]
      simp only [sumH, vA_at hx]
    have e3 : gd ps n * M = gd ps n * Go.Proofs.Ytjbaaomodcgdgaa.gA xs n * q := by rw [hq, Int.mul_assoc]
    have e4 : sumH (fun k => gd ps k) (n + 1) * M = sumH (fun k => gd ps k) n * M + gd ps n * Go.Proofs.Ytjbaaomodcgdgaa.gA xs n * q := by
      simp only [sumH]
      rw [Int.add_mul, e3]
    rw [e4, ← ih, ← e2]
    simp only [sumH, shaTo, e1]
    simp only [Int.mul_add, Int.add_mul]
    omega
theorem sha_nn {xs : List (Int × List Int)} (h : Lst xs) {ps : List Int} (hp : ∀ k, 0 ≤ gd ps k) {M : Int} (hM : 0 ≤ M) (j : Nat) : ∀ n, 0 ≤ shaTo xs ps M j n
  | 0 => Int.le_refl _
  | n + 1 => by
    have ih := sha_nn h hp hM j n
    have h1 := (vA_bd (fl_facts h.fl).2.1 j n).1
    have h2 := (tdiv_bd hM (h.gA n).1).1
    have := Int.mul_nonneg (Int.mul_nonneg (hp n) h1) h2
    simp only [shaTo]
    omega
theorem blR_0 {xs : List (Int × List Int)} {ps : List Int} (h : blC xs ps = 0) : blR xs ps = blTo xs ps xs.length 8 := by unfold blR; rw [if_pos h]
theorem blR_whole {xs : List (Int × List Int)} (h : Lst xs) {ps : List Int} (hl : ps.length = xs.length) (hb : ∀ x ∈ ps, 0 ≤ x ∧ x ≤ 8) (hs : 1 ≤ ps.sum ∧ ps.sum ≤ 5) : Whole (blR xs ps) := by
  obtain ⟨m1, m2⟩ := h.mul
  have hd := (mul_dvd h.gA xs.length).2
  have hS := mul_bd2 (show 0 ≤ ps.sum by omega) hs.2 (show 0 ≤ mulTo xs xs.length by omega) m2
  have hS1 := Int.mul_le_mul hs.1 m1 (by omega) (by omega)
  rw [blR_0 (h.bl hl hb hs.1)]
  refine whole_of (H := fun j => shaTo xs ps (mulTo xs xs.length) j xs.length) (S := ps.sum * mulTo xs xs.length) (blTo_len _ _ _ _) (by omega) (fun k => sha_nn h (fun k => (gd_ps hb k).1) (by omega) k _) (fun k hk => blTo_at xs ps _ hk) ?_
  rw [sha_all h ps xs.length (Nat.le_refl _) hd, gd_sum ps xs.length hl.symm]
/-- A blend of one fleece alone has its shares. -/
theorem bl_one {xs : List (Int × List Int)} (h : Lst xs) {i : Nat} (hi : i < xs.length) {x : Int × List Int} (hx : xs[i]? = some x) {P : Int} (hP : 1 ≤ P ∧ P ≤ 5) : blC xs (onI xs.length i P) = 0 ∧ blR xs (onI xs.length i P) = shR x.2 := by
  have hl : (onI xs.length i P).length = xs.length := by unfold onI; simp
  have hs := onI_sum hi P
  have hc := h.bl hl (onI_bd (by omega)) (by rw [hs]; omega)
  refine ⟨hc, ?_⟩
  have hw := (h.fl x (List.mem_of_getElem? hx)).wan
  obtain ⟨m1, m2⟩ := h.mul
  obtain ⟨q, hq⟩ := (mul_dvd h.gA xs.length).2 i hi
  have hg := h.gA i
  have hq1 : 1 ≤ q := by
    by_cases hh : 1 ≤ q
    · exact hh
    · have := Int.mul_nonpos_of_nonneg_of_nonpos (a := gA xs i) (b := q) (by omega) (by omega); omega
  have hPq := Int.mul_le_mul hP.1 hq1 (by omega) (by omega)
  rw [blR_0 hc, shR_0 hw.hs.2.2.2]
  apply List.ext_getElem?
  intro k
  by_cases hk : k < 8
  · rw [blTo_at xs _ _ hk, shTo_at _ _ hk, sha_one hi, if_pos hi, hs, vA_at hx]
    have e1 : (mulTo xs xs.length).tdiv (gA xs i) = q := by rw [hq, Int.mul_tdiv_cancel_left _ (by omega)]
    have e2 : P * x.2.getD k 0 * q = (P * q) * x.2.getD k 0 := by ac_rfl
    have e3 : P * (gA xs i * q) = (P * q) * hsL x.2 := by rw [gA_at hx]; ac_rfl
    have hz := fr_scale (c := P * q) (a := x.2.getD k 0) (b := hsL x.2) (by omega) (getD13 hw.bd k).1 hw.hs.2.1
    rw [e1, e2, hq, e3, hz.1, hz.2]
  · rw [List.getElem?_eq_none (by rw [blTo_len]; omega), List.getElem?_eq_none (by rw [shTo_len]; omega)]
/-- The nearest blend. -/
theorem nb_all {xs : List (Int × List Int)} {W : List Int} {P : Int} (h : Lst xs) (hW : Wan W) (hP : 1 ≤ P ∧ P ≤ 5) (hne : xs.length ≠ 0) :
    nbC xs W P = 0 ∧ (nbR xs W P).length = xs.length ∧ (nbR xs W P).sum = P ∧ (∀ x ∈ nbR xs W P, 0 ≤ x ∧ x ≤ 8) ∧ ∃ l, 0 ≤ l ∧ nbN xs W P = frN l (P * mulTo xs xs.length * hsL W) ∧ nbD xs W P = frD l (P * mulTo xs xs.length * hsL W) ∧
      ∀ i, i < xs.length → l ≤ offT xs (onI xs.length i P) (mulTo xs xs.length) (hsL W) P W 8 := by
  have hc := nbC_is h.fl h.n4 hW hP
  rw [if_neg hne] at hc
  have hF := (fl_facts h.fl).1
  obtain ⟨ps, l, f1, f2, f3, f4⟩ := nb_found hF hW.len hc
  have hG := nbF_good (F := fun ps => offT xs ps (mulTo xs xs.length) (hsL W) P W 8) (n := xs.length) (xs.length - 1) [] P.toNat none (by simp; omega) (by simp) (by omega) (fun _ _ e => by cases e) ps l f1
  have eR : nbR xs W P = ps := by unfold nbR; rw [if_pos hc, f1]
  have eL : nbL xs W P = l := by unfold nbL; rw [f1]
  refine ⟨hc, by rw [eR, f2], by rw [eR]; exact nb_sum (by omega) f1, by rw [eR]; exact hG.2.1, l, f3, by unfold nbN; rw [if_pos hc, eL], by unfold nbD; rw [if_pos hc, eL], fun i hi => ?_⟩
  obtain ⟨ps2, l2, g1, g2⟩ := nbF_le (F := fun ps => offT xs ps (mulTo xs xs.length) (hsL W) P W 8) (xs.length - 1) [] P.toNat none (one1 xs.length i P.toNat) (by unfold one1; simp; omega) (one_sum hi _)
  unfold nbSt at f1
  rw [f1] at g1
  cases g1
  rw [List.nil_append, one_map, show ((P.toNat : Nat) : Int) = P by omega] at g2
  exact g2
/-- No blend of one fleece alone is nearer. -/
theorem far_le {xs : List (Int × List Int)} {W : List Int} {P : Int} (h : Lst xs) (hW : Wan W) (hP : 1 ≤ P ∧ P ≤ 5) {i : Nat} (hi : i < xs.length) {x : Int × List Int} (hx : xs[i]? = some x) :
    woC [x.2, W] = 0 ∧ 1 ≤ frD (offS x.2 W (hsL x.2) (hsL W) 8) (hsL x.2 * hsL W) ∧ 1 ≤ nbD xs W P ∧
      0 ≤ nbN xs W P * frD (offS x.2 W (hsL x.2) (hsL W) 8) (hsL x.2 * hsL W) ∧
      nbN xs W P * frD (offS x.2 W (hsL x.2) (hsL W) 8) (hsL x.2 * hsL W) ≤ frN (offS x.2 W (hsL x.2) (hsL W) 8) (hsL x.2 * hsL W) * nbD xs W P ∧
      frN (offS x.2 W (hsL x.2) (hsL W) 8) (hsL x.2 * hsL W) * nbD xs W P ≤ 4000000000000000000 := by
  have hw := (h.fl x (List.mem_of_getElem? hx)).wan
  obtain ⟨x1, x2, x3, _⟩ := hw.hs
  obtain ⟨w1, w2, w3, _⟩ := hW.hs
  obtain ⟨n1, n2, n3, n4, l, n5, n6, n7, n8⟩ := nb_all h hW hP (by omega)
  obtain ⟨m1, m2⟩ := h.mul
  obtain ⟨q, hq⟩ := (mul_dvd h.gA xs.length).2 i hi
  have hg := h.gA i
  have hq1 : 1 ≤ q := by
    by_cases hh : 1 ≤ q
    · exact hh
    · have := Int.mul_nonpos_of_nonneg_of_nonpos (a := gA xs i) (b := q) (by omega) (by omega); omega
  have hl := n8 i hi
  rw [offT_one hi hq (by omega) (by omega) (by omega) hx] at hl
  have hrng := offS_rng x1 w1 (X := hsL x.2) (Y := hsL W) (by omega) (by omega) 8
  have hy : 1 ≤ hsL x.2 * hsL W := by have := Int.mul_le_mul x2 w2 (by omega) (by omega); omega
  have hPM := mul_bd2 (show 0 ≤ P by omega) hP.2 (show 0 ≤ mulTo xs xs.length by omega) m2
  have hPM1 : 1 ≤ P * mulTo xs xs.length := by have := Int.mul_le_mul hP.1 m1 (by omega) (by omega); omega
  have hv := mul_bd2 hPM.1 hPM.2 (show 0 ≤ hsL W by omega) w3
  have hv1 : 1 ≤ P * mulTo xs xs.length * hsL W := by have := Int.mul_le_mul hPM1 w2 (by omega) (by omega); omega
  have F1 := fr_pos (x := offS x.2 W (hsL x.2) (hsL W) 8) hrng.1 hy
  have F2 := fr_pos (x := l) n5 hv1
  have hkey : l * (hsL x.2 * hsL W) ≤ offS x.2 W (hsL x.2) (hsL W) 8 * (P * mulTo xs xs.length * hsL W) := by
    have e : offS x.2 W (hsL x.2) (hsL W) 8 * (P * mulTo xs xs.length * hsL W) = P * q * offS x.2 W (hsL x.2) (hsL W) 8 * (hsL x.2 * hsL W) := by
      rw [hq, gA_at hx]
      ac_rfl
    rw [e]
    exact Int.mul_le_mul_of_nonneg_right hl (by omega)
  have hle := fr_le hrng.1 hy n5 hv1 hkey
  rw [n6, n7]
  have b1 := mul_bd2 F1.2.2.2.1 (show frN (offS x.2 W (hsL x.2) (hsL W) 8) (hsL x.2 * hsL W) ≤ 64000000 by omega) (show 0 ≤ frD l (P * mulTo xs xs.length * hsL W) by omega) (show frD l (P * mulTo xs xs.length * hsL W) ≤ 50000000000 by omega)
  refine ⟨?_, F1.2.2.2.2.2.1, F2.2.2.2.2.2.1, Int.mul_nonneg F2.2.2.2.1 (by omega), hle, by omega⟩
  simp [woC, x1, w1, show 0 < hsL x.2 by omega, show 0 < hsL W by omega]
theorem off_self {W : List Int} (hW : Wan W) : woC [W, W] = 0 ∧ frN (offS W W (hsL W) (hsL W) 8) (hsL W * hsL W) = 0 ∧ frD (offS W W (hsL W) (hsL W) 8) (hsL W * hsL W) = 1 := by
  obtain ⟨w1, w2, w3, _⟩ := hW.hs
  have hy : 1 ≤ hsL W * hsL W := by have := Int.mul_le_mul w2 w2 (by omega) (by omega); omega
  rw [offS_self]
  exact ⟨by simp [woC, w1, show 0 < hsL W by omega], fr_zero hy⟩
theorem take_bd {ps : List Int} (h : ∀ x ∈ ps, 0 ≤ x ∧ x ≤ 8) (hl : ps.length ≤ 4) (k : Nat) : -1000000000 ≤ (ps.take k).sum ∧ (ps.take k).sum ≤ 1000000000 := by
  have := sum_le (ps := ps.take k) (fun x hx => h x (List.mem_of_mem_take hx))
  have : (ps.take k).length ≤ ps.length := by rw [List.length_take]; omega
  omega
theorem half_is {P : Int} (h : 1 ≤ P ∧ P ≤ 5) : mfN (6 * P) (-4 * P) = -3 ∧ mfD (6 * P) (-4 * P) = 2 ∧ mfC (6 * P) (-4 * P) = 0 := by
  have : P = 1 ∨ P = 2 ∨ P = 3 ∨ P = 4 ∨ P = 5 := by omega
  rcases this with rfl | rfl | rfl | rfl | rfl <;> decide
theorem cmp_is : cfC (-3) 2 (-3) 2 = 0 ∧ cfV (-3) 2 (-3) 2 = 0 ∧ cfC (-2) 1 (-3) 2 = 0 ∧ cfV (-2) 1 (-3) 2 = -1 := by decide
end Go.Proofs.Ytjbaaomodcgdgaa
