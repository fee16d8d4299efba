/- Contracts: decimal numbers: impl.decimal (strconv.FormatInt) and spec.Decimal; Rows of texts of the call's own; Contracts: numbers in decimal with a blank between them: impl.joined and spec.l02Text; Plain law: texts cut at a byte, numerals read; Contracts: spec.l01Number and spec.l01Split. -/
import Derived.Test.YtbkhlcbnnjgdpaaGreatDoorShelf
import Derived.Test.YtbkhlcbnnjgdpaaGreatDoorBa
import Derived.Lib.AppendIntMem
import Derived.Lib.ItoaLen
import Derived.Laws.IdiomStrings
import Derived.Test.YtbkhlcbnnjgdpaaGreatDoorProg
import Derived.Lib.Join
import Derived.Lib.SplitLaws
import Derived.Lib.ParseIntBCases
namespace Go.Proofs.YtbkhlcbnnjgdpaaGreatDoor
open Go.RowKit
set_option linter.unusedVariables false
set_option linter.unusedSimpArgs false
/-- The decimal digits of a number. -/
def dec (n : Int) : ByteArray := ⟨(Lib.itoa n).toArray⟩
theorem dec_small {m : Nat} (h : m < 10) : dec (m : Int) = ⟨#[UInt8.ofNat (48 + m)]⟩ := by
  unfold dec Lib.itoa
  rw [if_neg (by omega), show ((m : Int)).toNat = m from rfl, Lib.decDigits, dif_pos h]
theorem dec_big {m : Nat} (h : ¬ m < 10) : dec (m : Int) = dec ((m / 10 : Nat) : Int) ++ ⟨#[UInt8.ofNat (48 + m % 10)]⟩ := by
  unfold dec Lib.itoa
  rw [if_neg (by omega), if_neg (by omega), show ((m : Int)).toNat = m from rfl, show (((m / 10 : Nat) : Int)).toNat = m / 10 from rfl, Lib.decDigits, dif_neg h]
  apply ByteArray.ext
  simp
theorem dec_len (n : Int) (h0 : -9223372036854775808 ≤ n) (h1 : n ≤ 9223372036854775807) : (dec n).size ≤ 21 := by
  have := Lib.itoa_length_le n h0 h1
  show (Lib.itoa n).toArray.size ≤ 21
  simpa using this
/-- The table of the powers of ten, whatever is done from block B on. -/
abbrev Tb (B : Nat) (w : World) : Prop := Lib.TabBelow Tryz.prog B w "internal/strconv.uint64pow10" .u64 Lib.pow10Tab
theorem decimal_any (B : Nat) (n : Int) (w : World) (h0 : -9223372036854775808 ≤ n) (h1 : n ≤ 9223372036854775807) (hT : Tb B w) :
    Calls Tryz.prog 73 #[.int .i64 n] w fun e w' => e = .returned (.string (dec n)) ∧ Below w.heap.size w w' := by
  go_enter Tryz.func73, Tryz.ntmps73
  go_wp2_with (go_at_call 93; (refine (Tryz.strconv_FormatInt_10 n h0 h1 _ hT.here).mono ?_); rintro e w' ⟨rfl, k, os, rfl⟩)
  go_ret
  exact ⟨rfl, Lib.below_grow _ _ (Nat.le_refl _) _ _⟩
end Go.Proofs.YtbkhlcbnnjgdpaaGreatDoor
namespace Go.Proofs.YtbkhlcbnnjgdpaaGreatDoor
open Go.RowKit
set_option linter.unusedVariables false
set_option linter.unusedSimpArgs false
def strs (L : List ByteArray) : List Value := L.map fun s => .string s
theorem strs_flat (L : List ByteArray) : strs L = L.flatMap fun s => [.string s] := by
  induction L with
  | nil => rfl
  | cons x L ih => simp [strs, List.flatMap_cons] at *; exact ih
theorem own_strs {w : World} {base E n c : Nat} {A : Option Addr} {L : List ByteArray} (O : w.ownsRow base E 1 (.slice A n c) n (strs L)) (hn : n ≤ 140737488351232) : Rds w A n 1 (fun s : ByteArray => [.string s]) L :=
  own_rds (by rw [← strs_flat]; exact O) (fun _ _ => rfl) (by omega) hn
theorem str_cat (s : ByteArray) (b : UInt8) : s ++ (⟨#[b]⟩ : ByteArray) = s.push b := by
  apply ByteArray.ext
  simp
theorem infoStr : (Tryz.prog.info? 9).map (fun i => (i.zero, i.size, i.bytes)) = some (some (.string ByteArray.empty), 1, 16) := by kernel_rfl
end Go.Proofs.YtbkhlcbnnjgdpaaGreatDoor
namespace Go.Proofs.YtbkhlcbnnjgdpaaGreatDoor
open Go.RowKit
set_option linter.unusedVariables false
set_option linter.unusedSimpArgs false
/-- A whole number of 64 bits. -/
def I64 (x : Int) : Prop := -9223372036854775808 ≤ x ∧ x ≤ 9223372036854775807
def decs (xs : List Int) : List ByteArray := xs.map dec
theorem decs_len (xs : List Int) : (decs xs).length = xs.length := by simp [decs]
theorem decs_data (xs : List Int) : (decs xs).map (·.data.toList) = xs.map Lib.itoa := by simp [decs, dec]
/-- The first k numbers with a blank between them. -/
def wtTo (xs : List Int) (k : Nat) : ByteArray := ⟨(Lib.join ((xs.map Lib.itoa).take k) [32]).toArray⟩
def wtB (xs : List Int) : ByteArray := ⟨(Lib.join (xs.map Lib.itoa) [32]).toArray⟩
theorem wtTo_all (xs : List Int) : wtTo xs xs.length = wtB xs := by unfold wtTo wtB; rw [List.take_of_length_le (by simp)]
theorem wtTo_0 (xs : List Int) : wtTo xs 0 = ByteArray.empty := by
  unfold wtTo
  rw [List.take_zero, Lib.join_nil]
  rfl
theorem wtTo_1 {xs : List Int} {x : Int} (h : xs[0]? = some x) : wtTo xs 1 = dec x := by
  cases xs with
  | nil => simp at h
  | cons y ys =>
    simp at h
    subst h
    unfold wtTo dec
    rw [List.map_cons, List.take_succ_cons, List.take_zero, Lib.join_one]
theorem wtTo_succ {xs : List Int} {k : Nat} {x : Int} (h : xs[k + 1]? = some x) : wtTo xs (k + 1 + 1) = (wtTo xs (k + 1) ++ ⟨#[32]⟩) ++ dec x := by
  cases xs with
  | nil => simp at h
  | cons y ys =>
    simp at h
    have hm : (ys.map Lib.itoa)[k]? = some (Lib.itoa x) := by rw [List.getElem?_map, h]; rfl
    unfold wtTo dec
    rw [List.map_cons, List.take_succ_cons, List.take_succ_cons, Lib.join_cons, Lib.join_cons, Lib.joinTail_take_succ _ _ _ _ hm]
    apply ByteArray.ext
    simp
theorem wtTo_size {xs : List Int} (hx : ∀ x ∈ xs, I64 x) : ∀ k, k ≤ xs.length → (wtTo xs k).size ≤ 22 * k := by
  intro k
  induction k with
  | zero => intro _; rw [wtTo_0]; show 0 ≤ 0; omega
  | succ k ih =>
    intro hk
    have hg : xs[k]? = some (xs[k]'(by omega)) := List.getElem?_eq_getElem _
    have hb := hx _ (List.getElem_mem (show k < xs.length by omega))
    have hd := dec_len _ hb.1 hb.2
    cases k with
    | zero => rw [wtTo_1 hg]; omega
    | succ k =>
      rw [wtTo_succ hg, ByteArray.size_append, ByteArray.size_append]
      have := ih (by omega)
      have h1 : (⟨#[32]⟩ : ByteArray).size = 1 := rfl
      omega
end Go.Proofs.YtbkhlcbnnjgdpaaGreatDoor
namespace Go.Proofs.YtbkhlcbnnjgdpaaGreatDoor
open Go.RowKit
set_option linter.unusedVariables false
set_option linter.unusedSimpArgs false
/-- A text cut at each such byte. -/
def sp (c : UInt8) : List UInt8 → List (List UInt8)
  | [] => [[]]
  | x :: r => if x = c then [] :: sp c r else match sp c r with
    | [] => [[x]]
    | h :: t => (x :: h) :: t
theorem sp_ne (c : UInt8) (l : List UInt8) : ∃ h t, sp c l = h :: t := by
  cases l with
  | nil => exact ⟨_, _, rfl⟩
  | cons x r =>
    unfold sp
    split
    · exact ⟨_, _, rfl⟩
    · split
      · exact ⟨_, _, rfl⟩
      · exact ⟨_, _, rfl⟩
theorem sp_hit (c : UInt8) (r : List UInt8) : sp c (c :: r) = [] :: sp c r := by rw [sp, if_pos rfl]
theorem sp_miss {c x : UInt8} (h : x ≠ c) (r : List UInt8) {a : List UInt8} {t : List (List UInt8)} (e : sp c r = a :: t) : sp c (x :: r) = (x :: a) :: t := by rw [sp, if_neg h, e]
theorem sp_none {c : UInt8} {l : List UInt8} (h : c ∉ l) : sp c l = [l] := by
  induction l with
  | nil => rfl
  | cons x r ih =>
    simp only [List.mem_cons, not_or] at h
    exact sp_miss (fun e => h.1 e.symm) r (ih h.2)
theorem sp_app {c : UInt8} {p : List UInt8} (h : c ∉ p) (r : List UInt8) : sp c (p ++ c :: r) = p :: sp c r := by
  induction p with
  | nil => exact sp_hit c r
  | cons x p ih =>
    simp only [List.mem_cons, not_or] at h
    exact sp_miss (fun e => h.1 e.symm) _ (ih h.2)
theorem joinTail_cons (sep h : List UInt8) (t : List (List UInt8)) : Lib.joinTail sep (h :: t) = sep ++ h ++ Lib.joinTail sep t := by simp [Lib.joinTail]
theorem sp_join (c : UInt8) (l : List UInt8) : Lib.join (sp c l) [c] = l := by
  induction l with
  | nil => rfl
  | cons x r ih =>
    obtain ⟨a, t, e⟩ := sp_ne c r
    rw [e, Lib.join_cons] at ih
    by_cases hx : x = c
    · subst hx
      rw [sp_hit, Lib.join_cons, e, joinTail_cons, List.append_assoc, ih]
      rfl
    · rw [sp_miss hx r e, Lib.join_cons, List.cons_append, ih]
theorem join_sp {c : UInt8} {ws : List (List UInt8)} (h0 : ws ≠ []) (h : ∀ w ∈ ws, c ∉ w) : sp c (Lib.join ws [c]) = ws := by
  induction ws with
  | nil => exact absurd rfl h0
  | cons w ws ih =>
    cases ws with
    | nil => rw [Lib.join_one]; exact sp_none (h w (by simp))
    | cons v vs =>
      have e : Lib.join (w :: v :: vs) [c] = w ++ c :: Lib.join (v :: vs) [c] := by
        rw [Lib.join_cons, Lib.join_cons, joinTail_cons]
        simp
      rw [e, sp_app (h w (by simp)), ih (by simp) (fun x hx => h x (by simp [hx]))]
theorem occ1 (l : List UInt8) (c : UInt8) (j : Nat) : Lib.occAt l [c] j = decide (l[j]? = some c) := by
  unfold Lib.occAt
  rw [← List.head?_drop]
  cases l.drop j with
  | nil => simp
  | cons x r =>
    simp only [List.isPrefixOf, List.head?_cons, Option.some.injEq, Bool.and_true]
    by_cases h : c = x
    · subst h; simp
    · rw [decide_eq_false (fun e => h e.symm)]; simpa using h
theorem split_sp (c : UInt8) : ∀ (n : Nat) (l : List UInt8), l.length < n → Lib.splitK [c] 0 (Lib.count l [c]) l = sp c l := by
  intro n
  induction n with
  | zero => intro l h; omega
  | succ n ih =>
    intro l hl
    rcases Lib.index_spec l [c] with ⟨h1, h2⟩ | ⟨i, h1, h2, h3, h4⟩
    · rw [Lib.count_miss h1, Lib.splitK, sp_none]
      intro hm
      obtain ⟨j, hj, e⟩ := List.getElem_of_mem hm
      have := h2 j (by omega)
      rw [occ1, decide_eq_false_iff_not] at this
      exact this (by rw [List.getElem?_eq_getElem hj, e])
    · rw [occ1, decide_eq_true_eq] at h3
      have hi : i < l.length := (List.getElem?_eq_some_iff.1 h3).1
      have e0 : l[i] = c := (List.getElem?_eq_some_iff.1 h3).2
      have e1 : l = l.take i ++ c :: l.drop (i + 1) := by rw [← e0, ← List.drop_eq_getElem_cons hi, List.take_append_drop]
      have hno : c ∉ l.take i := by
        intro hm
        obtain ⟨j, hj, e⟩ := List.getElem_of_mem hm
        rw [List.length_take] at hj
        have := h4 j (by omega)
        rw [occ1, decide_eq_false_iff_not] at this
        exact this (by rw [List.getElem?_eq_getElem (by omega)]; rw [List.getElem_take] at e; rw [e])
      have hc := Lib.count_hit (s := l) (sub := [c]) (by simp) h1
      have e2 : sp c l = l.take i :: sp c (l.drop (i + 1)) := (congrArg (sp c) e1).trans (sp_app hno _)
      have hk : ¬ ((i : Int) == -1) = true := fun e => by have := beq_iff_eq.1 e; omega
      rw [e2, hc, Nat.add_comm 1, Lib.splitK, h1, if_neg hk, ← ih (l.drop (i + 1)) (by rw [List.length_drop]; omega)]
      rfl
theorem splitB_sp (c : UInt8) (s : ByteArray) : (Lib.splitB ⟨#[c]⟩ 0 (Lib.countB s ⟨#[c]⟩) s).map (·.data.toList) = sp c s.data.toList := by
  rw [Lib.splitB_data]
  exact split_sp c _ _ (Nat.lt_succ_self _)
/-- What digits spell behind a number. -/
def nv (acc : Nat) : List UInt8 → Option Nat
  | [] => some acc
  | c :: r => if 48 ≤ c.toNat ∧ c.toNat ≤ 57 then nv (10 * acc + (c.toNat - 48)) r else none
theorem nv_hit {c : UInt8} (h : 48 ≤ c.toNat ∧ c.toNat ≤ 57) (acc : Nat) (r : List UInt8) : nv acc (c :: r) = nv (10 * acc + (c.toNat - 48)) r := by rw [nv, if_pos h]
theorem nv_miss {c : UInt8} (h : ¬ (48 ≤ c.toNat ∧ c.toNat ≤ 57)) (acc : Nat) (r : List UInt8) : nv acc (c :: r) = none := by rw [nv, if_neg h]
theorem nv_digit {acc n : Nat} {c : UInt8} {r : List UInt8} (h : nv acc (c :: r) = some n) : 48 ≤ c.toNat ∧ c.toNat ≤ 57 := by
  by_cases hd : 48 ≤ c.toNat ∧ c.toNat ≤ 57
  · exact hd
  · rw [nv_miss hd] at h; cases h
theorem nv_ge {l : List UInt8} : ∀ {acc n : Nat}, nv acc l = some n → acc ≤ n := by
  induction l with
  | nil => intro acc n h; have := Option.some.inj h; omega
  | cons c r ih =>
    intro acc n h
    have hd := nv_digit h
    rw [nv_hit hd] at h
    have := ih h
    omega
theorem nv_lt {l : List UInt8} : ∀ {acc n : Nat}, nv acc l = some n → n < (acc + 1) * 10 ^ l.length := by
  induction l with
  | nil => intro acc n h; have := Option.some.inj h; simp; omega
  | cons c r ih =>
    intro acc n h
    have hd := nv_digit h
    rw [nv_hit hd] at h
    have h1 := ih h
    have h2 : (10 * acc + (c.toNat - 48) + 1) * 10 ^ r.length ≤ (10 * (acc + 1)) * 10 ^ r.length := Nat.mul_le_mul_right _ (by omega)
    rw [List.length_cons, Nat.pow_succ, Nat.mul_comm (10 ^ r.length) 10, ← Nat.mul_assoc, Nat.mul_comm (acc + 1) 10]
    omega
theorem nv_app (a b : List UInt8) : ∀ acc, nv acc (a ++ b) = (nv acc a).bind fun m => nv m b := by
  induction a with
  | nil => intro acc; rfl
  | cons c r ih =>
    intro acc
    by_cases hd : 48 ≤ c.toNat ∧ c.toNat ≤ 57
    · rw [List.cons_append, nv_hit hd, nv_hit hd, ih]
    · rw [List.cons_append, nv_miss hd, nv_miss hd]; rfl
theorem dig_big {u : Nat} (h : ¬ u < 10) : Lib.decDigits u = Lib.decDigits (u / 10) ++ [UInt8.ofNat (48 + u % 10)] := by rw [Lib.decDigits, dif_neg h]
theorem byte_nat {k : Nat} (h : k < 256) : (UInt8.ofNat k).toNat = k := by simp; omega
theorem nv_one {k acc : Nat} (h : k < 10) : nv acc [UInt8.ofNat (48 + k)] = some (10 * acc + k) := by
  have e : (UInt8.ofNat (48 + k)).toNat = 48 + k := byte_nat (by omega)
  rw [nv_hit (by omega), e, show 48 + k - 48 = k by omega]
  rfl
theorem nv_dec : ∀ n : Nat, nv 0 (Lib.decDigits n) = some n := by
  intro n
  induction n using Nat.strongRecOn with
  | ind n ih =>
    by_cases h : n < 10
    · rw [Lib.decDigits_one h, nv_one h]; simp
    · rw [dig_big h, nv_app, ih (n / 10) (by omega)]
      show nv (n / 10) _ = _
      rw [nv_one (by omega)]
      congr 1
      omega
theorem dec_of_nv {l : List UInt8} : ∀ {acc n : Nat}, 0 < acc → nv acc l = some n → Lib.decDigits n = Lib.decDigits acc ++ l := by
  induction l with
  | nil => intro acc n h0 h; rw [Option.some.inj h, List.append_nil]
  | cons c r ih =>
    intro acc n h0 h
    have hd := nv_digit h
    rw [nv_hit hd] at h
    rw [ih (by omega) h, dig_big (by omega), show (10 * acc + (c.toNat - 48)) / 10 = acc by omega, show 48 + (10 * acc + (c.toNat - 48)) % 10 = c.toNat by omega]
    simp
theorem dec_head : ∀ n : Nat, 0 < n → (Lib.decDigits n).head? ≠ some 48 := by
  intro n
  induction n using Nat.strongRecOn with
  | ind n ih =>
    intro h0
    by_cases h : n < 10
    · rw [Lib.decDigits_one h]
      intro e
      have e1 := congrArg (Option.map UInt8.toNat) e
      simp only [List.head?_cons, Option.map_some] at e1
      rw [byte_nat (by omega)] at e1
      have := Option.some.inj e1
      have h48 : (48 : UInt8).toNat = 48 := rfl
      omega
    · rw [dig_big h]
      have := ih (n / 10) (by omega) (by omega)
      cases hh : Lib.decDigits (n / 10) with
      | nil =>
        have e1 := Lib.decDigits_length (n / 10)
        have e2 := Lib.nDigits_pos (n / 10)
        rw [hh] at e1
        simp at e1
        omega
      | cons c r => rw [hh] at this; simpa using this
theorem nDig_le : ∀ (k n : Nat), n < 10 ^ (k + 1) → Lib.nDigits n ≤ k + 1 := by
  intro k
  induction k with
  | zero => intro n h; rw [Lib.nDigits_small (by omega)]; omega
  | succ k ih =>
    intro n h
    by_cases hs : n < 10
    · rw [Lib.nDigits_small hs]; omega
    · rw [Lib.nDigits_big hs]
      have := ih (n / 10) (by rw [Nat.pow_succ] at h; omega)
      omega
/-- A number of at most nine digits, without a sign. -/
def num (l : List UInt8) : Option Nat := if l = [] ∨ 9 < l.length ∨ (l.head? = some 48 ∧ 1 < l.length) then none else nv 0 l
theorem num_some {l : List UInt8} {n : Nat} (h : num l = some n) : l = Lib.decDigits n ∧ n < 1000000000 := by
  unfold num at h
  split at h
  · cases h
  · rename_i hn
    simp only [not_or] at hn
    obtain ⟨h1, h2, h3⟩ := hn
    constructor
    · cases l with
      | nil => exact absurd rfl h1
      | cons c r =>
        have hd := nv_digit h
        rw [nv_hit hd] at h
        by_cases h0 : c = 48
        · have hr : r = [] := by
            cases r with
            | nil => rfl
            | cons x y => exact absurd ⟨by rw [h0]; rfl, by simp⟩ h3
          subst hr
          subst h0
          have := Option.some.inj h
          have h48 : (48 : UInt8).toNat = 48 := rfl
          rw [h48] at this
          rw [← this]
          rw [Lib.decDigits_one (by omega)]
          rfl
        · have h48 : c.toNat ≠ 48 := fun e => h0 (UInt8.toNat_inj.1 e)
          have e := dec_of_nv (by omega) h
          rw [Lib.decDigits_one (i := 10 * 0 + (c.toNat - 48)) (by omega)] at e
          rw [e, show 48 + (10 * 0 + (c.toNat - 48)) = c.toNat by omega]
          simp
    · have := nv_lt h
      have h4 : 10 ^ l.length ≤ 10 ^ 9 := Nat.pow_le_pow_right (by omega) (by omega)
      omega
theorem dec_ne (n : Nat) : Lib.decDigits n ≠ [] := by
  intro e
  have := Lib.decDigits_length n
  have := Lib.nDigits_pos n
  rw [e] at *
  simp at *
  omega
theorem num_dec {n : Nat} (h : n < 1000000000) : num (Lib.decDigits n) = some n := by
  unfold num
  rw [if_neg, nv_dec]
  rintro (h1 | h1 | ⟨h1, h2⟩)
  · exact dec_ne n h1
  · rw [Lib.decDigits_length] at h1
    have := nDig_le 8 n h
    omega
  · rcases Nat.eq_zero_or_pos n with h0 | h0
    · subst h0
      rw [Lib.decDigits_one (by omega)] at h2
      simp at h2
    · exact dec_head n h0 h1
theorem pm_of_nv {M : Nat} {l : List UInt8} : ∀ {acc n : Nat}, nv acc l = some n → n ≤ M → n < 1000000000000000000 → Lib.parseUintM M acc l = .ok n := by
  induction l with
  | nil => intro acc n h _ _; rw [Lib.parseUintM, Option.some.inj h]
  | cons c r ih =>
    intro acc n h hM h18
    have hd := nv_digit h
    have hg := nv_ge h
    rw [nv_hit hd] at h
    have hg2 := nv_ge h
    rw [Lib.parseUintM, if_pos hd, if_neg (by omega), if_neg (by omega), show acc * 10 + (c.toNat - 48) = 10 * acc + (c.toNat - 48) by omega]
    exact ih h hM h18
theorem parse_dec {B n : Nat} (hB : n < 2 ^ (B - 1)) (hB2 : n ≤ 2 ^ B - 1) (h : n < 1000000000000000000) : Lib.parseIntB B (Lib.decDigits n) = .ok (n : Int) := by
  have hv := nv_dec n
  cases hl : Lib.decDigits n with
  | nil => exact absurd hl (dec_ne n)
  | cons c r =>
    rw [hl] at hv
    have hd := nv_digit hv
    have hp : Lib.parseUintB B (c :: r) = .ok n := by
      unfold Lib.parseUintB
      rw [if_neg (by simp)]
      exact pm_of_nv hv hB2 h
    unfold Lib.parseIntB
    have h1 : ¬ c.toNat = 43 := by omega
    have h2 : ¬ c.toNat = 45 := by omega
    simp only [h1, h2, or_self, if_false]
    rw [hp]
    have h3 : ¬ 2 ^ (B - 1) ≤ n := by omega
    simp [h3]
theorem blank_dec : ∀ n : Nat, ∀ c ∈ Lib.decDigits n, 48 ≤ c.toNat ∧ c.toNat ≤ 57 := by
  intro n
  induction n using Nat.strongRecOn with
  | ind n ih =>
    by_cases h : n < 10
    · rw [Lib.decDigits_one h]
      intro c hc
      rw [List.mem_singleton.1 hc, byte_nat (by omega)]
      omega
    · rw [dig_big h]
      intro c hc
      rcases List.mem_append.1 hc with h1 | h1
      · exact ih (n / 10) (by omega) c h1
      · rw [List.mem_singleton.1 h1, byte_nat (by omega)]
        omega
end Go.Proofs.YtbkhlcbnnjgdpaaGreatDoor
namespace Go.Proofs.YtbkhlcbnnjgdpaaGreatDoor
open Go.RowKit
set_option linter.unusedVariables false
set_option linter.unusedSimpArgs false
def nok (w : List UInt8) : Bool := (num w).isSome
def nvv (w : List UInt8) : Int := (((num w).getD 0 : Nat) : Int)
theorem nok_some {w : List UInt8} {n : Nat} (h : num w = some n) : nok w = true ∧ nvv w = n := by unfold nok nvv; rw [h]; exact ⟨rfl, rfl⟩
theorem nok_none {w : List UInt8} (h : num w = none) : nok w = false ∧ nvv w = 0 := by unfold nok nvv; rw [h]; exact ⟨rfl, rfl⟩
theorem nvv_bd (w : List UInt8) : 0 ≤ nvv w ∧ nvv w < 1000000000 := by
  unfold nvv
  cases h : num w with
  | none => simp
  | some n => have := (num_some h).2; simp; omega
theorem str_len (s : ByteArray) : s.data.toList.length = s.size := by rw [Array.length_toList]; rfl
theorem str_drop (s : ByteArray) {k : Nat} (h : k < s.size) : s.data.toList.drop k = (s[k]'h) :: s.data.toList.drop (k + 1) := by
  rw [List.drop_eq_getElem_cons (by rw [str_len]; exact h)]
  rfl
theorem str_nil {s : ByteArray} (h : s.size = 0) : s = ⟨#[]⟩ := by
  apply ByteArray.ext
  have : s.data.size = 0 := h
  exact Array.eq_empty_of_size_eq_zero this
def btx (l : List UInt8) : ByteArray := ⟨l.toArray⟩
theorem btx_data (s : ByteArray) : btx s.data.toList = s := by apply ByteArray.ext; simp [btx]
theorem btx_of {s : ByteArray} {l : List UInt8} (h : s.data.toList = l) : s = btx l := by rw [← h, btx_data]
theorem own_empty0 (W : World) (e : TypeId) (size : Nat) : (W.alloc (.cells #[] e)).ownsRow W.heap.size e size (.slice (some ⟨W.heap.size, 0, none⟩) 0 0) 0 [] := (Row.alloc W [] e).own (Nat.le_refl _) (by simp [maxLen]) (by simp)
def spB (b : UInt8) (s : ByteArray) : List ByteArray := (sp b s.data.toList).map btx
theorem strs_snoc (L : List ByteArray) (s : ByteArray) : strs (L ++ [s]) = strs L ++ [.string s] := by simp [strs]
end Go.Proofs.YtbkhlcbnnjgdpaaGreatDoor
