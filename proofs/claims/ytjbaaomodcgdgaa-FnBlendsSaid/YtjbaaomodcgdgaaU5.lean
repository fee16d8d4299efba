/- The plain law of GradeHeaps: heaps summed up by grade. -/
import Derived.Test.YtjbaaomodcgdgaaU4
import Derived.Test.YtjbaaomodcgdgaaT1
namespace Go.Proofs.Ytjbaaomodcgdgaa
open Go.RowKit
set_option linter.unusedVariables false
set_option linter.unusedSimpArgs false
/-! Numbers by a rule. -/
def gen (n : Nat) (f : Nat → Int) : List Int := (List.range n).map f
theorem gen_len (n : Nat) (f : Nat → Int) : (gen n f).length = n := by simp [gen]
theorem gen_at {n : Nat} (f : Nat → Int) {k : Nat} (h : k < n) : (nums .i32 (gen n f))[k]? = some (.int .i32 (f k)) := by simp [nums, gen, h]
theorem gen_set {n : Nat} {f g : Nat → Int} {k : Nat} {v : Int} (h : k < n) (hv : g k = v) (hg : ∀ j, j < n → j ≠ k → g j = f j) : (nums .i32 (gen n f)).set k (.int .i32 v) = nums .i32 (gen n g) := by
  apply List.ext_getElem?
  intro i
  rw [List.getElem?_set]
  by_cases hk : k = i
  · subst hk
    simp [nums, gen, h, hv]
  · rw [if_neg hk]
    by_cases hi : i < n
    · simp [nums, gen, hi, hg i hi (fun e => hk e.symm)]
    · simp [nums, gen, hi]
theorem gen_congr {n : Nat} {f g : Nat → Int} (h : ∀ j, j < n → f j = g j) : gen n f = gen n g := by
  unfold gen
  apply List.map_congr_left
  intro j hj
  exact h j (List.mem_range.1 hj)
theorem gen_zero (n : Nat) : nums .i32 (gen n fun _ => 0) = List.replicate n (.int .i32 0) := by
  apply List.ext_getElem?
  intro i
  by_cases hi : i < n <;> simp [nums, gen, hi]
theorem gen_snoc8 (n : Nat) (f : Nat → Int) : gen ((n + 1) * 8) f = gen (n * 8) f ++ [f (n * 8), f (n * 8 + 1), f (n * 8 + 2), f (n * 8 + 3), f (n * 8 + 4), f (n * 8 + 5), f (n * 8 + 6), f (n * 8 + 7)] := by
  rw [show (n + 1) * 8 = n * 8 + 1 + 1 + 1 + 1 + 1 + 1 + 1 + 1 by omega]
  simp only [gen, List.range_succ, List.map_append, List.map_cons, List.map_nil, List.append_assoc, List.cons_append, List.nil_append]
theorem madeCells_heap (m : Nat) : madeCells (Value.cells (.agg #[.int .i32 0, .int .i32 0, .int .i32 0, .int .i32 0, .int .i32 0, .int .i32 0, .int .i32 0, .int .i32 0])) (m * 8) = (List.replicate (m * 8) (.int .i32 0)).toArray := by
  apply Array.ext
  · simp [madeCells]
  · intro i h1 h2
    have h3 : i % 8 = 0 ∨ i % 8 = 1 ∨ i % 8 = 2 ∨ i % 8 = 3 ∨ i % 8 = 4 ∨ i % 8 = 5 ∨ i % 8 = 6 ∨ i % 8 = 7 := by omega
    rcases h3 with h3 | h3 | h3 | h3 | h3 | h3 | h3 | h3 <;> simp [madeCells, Value.cells, h3]
/-- What number x of the list gives to cell j of grade g. -/
def ghA (xs : List (Int × List Int)) (bs : List Int) (g j i : Nat) : Int := match xs[i]? with
  | some x => if cntL bs x.1 = (g : Int) then x.2.getD j 0 else 0
  | none => 0
def ghS (xs : List (Int × List Int)) (bs : List Int) (g j : Nat) : Nat → Int
  | 0 => 0
  | i + 1 => ghS xs bs g j i + ghA xs bs g j i
def ghF (xs : List (Int × List Int)) (bs : List Int) (i p : Nat) : Int := ghS xs bs (p / 8) (p % 8) i
theorem ghA_at {xs : List (Int × List Int)} {bs : List Int} {i : Nat} {x : Int × List Int} (hx : xs[i]? = some x) (g j : Nat) : ghA xs bs g j i = if cntL bs x.1 = (g : Int) then x.2.getD j 0 else 0 := by
  unfold ghA
  rw [hx]
theorem fl_bd {xs : List (Int × List Int)} (h : flB xs = true) {i : Nat} {x : Int × List Int} (hx : xs[i]? = some x) (j : Nat) : 0 ≤ x.2.getD j 0 ∧ x.2.getD j 0 ≤ 1000 := by
  have h1 : ∀ x ∈ xs, fleeceOk x.1 x.2 = true := by simpa [flB] using h
  have h2 := h1 x (List.mem_of_getElem? hx)
  have h3 : ∀ y ∈ x.2, inB y 0 1000 = true := by
    have : heapOk x.2 = true := by
      unfold fleeceOk at h2
      cases hb : inB x.1 0 9 <;> simp_all
    simpa [heapOk] using this
  rw [List.getD_eq_getElem?_getD]
  by_cases hj : j < x.2.length
  · rw [List.getElem?_eq_getElem hj]
    have := h3 _ (List.getElem_mem hj)
    simpa [inB] using this
  · rw [List.getElem?_eq_none (by omega)]; simp
theorem ghS_bd {xs : List (Int × List Int)} (h : flB xs = true) (bs : List Int) (g j : Nat) : ∀ i, 0 ≤ ghS xs bs g j i ∧ ghS xs bs g j i ≤ 1000 * i
  | 0 => ⟨Int.le_refl _, by simp [ghS]⟩
  | i + 1 => by
    have ih := ghS_bd h bs g j i
    have ha : 0 ≤ ghA xs bs g j i ∧ ghA xs bs g j i ≤ 1000 := by
      unfold ghA
      split
      · rename_i x hx
        split
        · exact fl_bd h hx j
        · omega
      · omega
    unfold ghS
    omega
/-- The cells within a round: d cells of grade q have been raised. -/
def ghD (xs : List (Int × List Int)) (bs : List Int) (i q d p : Nat) : Int := if p / 8 = q ∧ p % 8 < d then ghF xs bs (i + 1) p else ghF xs bs i p
theorem ghD_zero (xs : List (Int × List Int)) (bs : List Int) (i q n : Nat) : gen n (ghD xs bs i q 0) = gen n (ghF xs bs i) := by
  apply gen_congr
  intro j _
  unfold ghD
  rw [if_neg (by omega)]
theorem ghD_end {xs : List (Int × List Int)} {bs : List Int} {i q n : Nat} {x : Int × List Int} (hx : xs[i]? = some x) (hq : cntL bs x.1 = (q : Int)) : gen n (ghD xs bs i q 8) = gen n (ghF xs bs (i + 1)) := by
  apply gen_congr
  intro j _
  unfold ghD
  split
  · rfl
  · rename_i h
    unfold ghF
    rw [ghS, ghA_at hx, if_neg (by rw [hq]; omega), Int.add_zero]
theorem ghD_at {xs : List (Int × List Int)} {bs : List Int} {i q d n : Nat} (hq : q < n) (hd : d < 8) : (nums .i32 (gen (n * 8) (ghD xs bs i q d)))[q * 8 + d]? = some (.int .i32 (ghS xs bs q d i)) := by
  rw [gen_at _ (by omega)]
  unfold ghD ghF
  rw [if_neg (by omega), show (q * 8 + d) / 8 = q by omega, show (q * 8 + d) % 8 = d by omega]
theorem ghF_at {xs : List (Int × List Int)} {bs : List Int} {i q d n : Nat} (hq : q < n) (hd : d < 8) : (nums .i32 (gen (n * 8) (ghF xs bs i)))[q * 8 + d]? = some (.int .i32 (ghS xs bs q d i)) := by
  rw [gen_at _ (by omega)]
  unfold ghF
  rw [show (q * 8 + d) / 8 = q by omega, show (q * 8 + d) % 8 = d by omega]
theorem ghD_set {xs : List (Int × List Int)} {bs : List Int} {i q d n : Nat} {x : Int × List Int} {v : Int} (hx : xs[i]? = some x) (hc : cntL bs x.1 = (q : Int)) (hq : q < n) (hd : d < 8) (hv : ghS xs bs q d i + x.2.getD d 0 = v) :
    (nums .i32 (gen (n * 8) (ghD xs bs i q d))).set (q * 8 + d) (.int .i32 v) = nums .i32 (gen (n * 8) (ghD xs bs i q (d + 1))) := by
  apply gen_set (by omega)
  · unfold ghD
    rw [if_pos (by omega)]
    unfold ghF
    rw [show (q * 8 + d) / 8 = q by omega, show (q * 8 + d) % 8 = d by omega, ghS, ghA_at hx, if_pos hc, hv]
  · intro j hj hne
    unfold ghD
    have h2 : (j / 8 = q ∧ j % 8 < d + 1) ↔ (j / 8 = q ∧ j % 8 < d) := by omega
    simp only [h2]
/-- The heap of grade g. -/
def ghH (xs : List (Int × List Int)) (bs : List Int) (i g : Nat) : List Int := [ghS xs bs g 0 i, ghS xs bs g 1 i, ghS xs bs g 2 i, ghS xs bs g 3 i, ghS xs bs g 4 i, ghS xs bs g 5 i, ghS xs bs g 6 i, ghS xs bs g 7 i]
def ghL (xs : List (Int × List Int)) (bs : List Int) (i n : Nat) : List (List Int) := (List.range n).map (ghH xs bs i)
theorem ghL_len (xs : List (Int × List Int)) (bs : List Int) (i n : Nat) : (ghL xs bs i n).length = n := by simp [ghL]
theorem ghL_at {xs : List (Int × List Int)} {bs : List Int} {i n g : Nat} (h : g < n) : (ghL xs bs i n)[g]? = some (ghH xs bs i g) := by simp [ghL, h]
theorem ghL_mem {xs : List (Int × List Int)} {bs : List Int} {i n : Nat} {L : List Int} (h : L ∈ ghL xs bs i n) : ∃ g, L = ghH xs bs i g := by
  unfold ghL at h
  obtain ⟨g, _, rfl⟩ := List.mem_map.1 h
  exact ⟨g, rfl⟩
theorem ghL_flat (xs : List (Int × List Int)) (bs : List Int) (i : Nat) : ∀ n, nums .i32 (gen (n * 8) (ghF xs bs i)) = (ghL xs bs i n).flatMap HE
  | 0 => rfl
  | n + 1 => by
    have h : ∀ d, d < 8 → ghF xs bs i (n * 8 + d) = ghS xs bs n d i := by
      intro d hd
      unfold ghF
      rw [show (n * 8 + d) / 8 = n by omega, show (n * 8 + d) % 8 = d by omega]
    rw [gen_snoc8, show n * 8 = n * 8 + 0 from rfl, h 0 (by omega), h 1 (by omega), h 2 (by omega), h 3 (by omega), h 4 (by omega), h 5 (by omega), h 6 (by omega), h 7 (by omega)]
    have ih := ghL_flat xs bs i n
    simp only [ghL, List.range_succ, List.map_append, List.map_cons, List.map_nil, List.flatMap_append, List.flatMap_cons, List.flatMap_nil, List.append_nil]
    rw [show List.flatMap HE (List.map (ghH xs bs i) (List.range n)) = nums .i32 (gen (n * 8) (ghF xs bs i)) from ih.symm]
    simp [nums, ghH]
theorem HE_HC {L : List Int} (h : L.length = 8) : HE L = HC L := by
  obtain ⟨a0, a1, a2, a3, a4, a5, a6, a7, rfl⟩ := heap8 h
  rfl
theorem flat_HC {ys : List (List Int)} (h : ∀ y ∈ ys, y.length = 8) : ys.flatMap HE = ys.flatMap HC := by
  induction ys with
  | nil => rfl
  | cons y ys ih => rw [List.flatMap_cons, List.flatMap_cons, HE_HC (h y (List.mem_cons_self ..)), ih (fun z hz => h z (List.mem_cons_of_mem _ hz))]
theorem ghL_8 {xs : List (Int × List Int)} {bs : List Int} {i n : Nat} : ∀ L ∈ ghL xs bs i n, L.length = 8 := by
  intro L h
  obtain ⟨g, rfl⟩ := ghL_mem h
  rfl
theorem ghL_wf {xs : List (Int × List Int)} {bs : List Int} {i n : Nat} (hf : flB xs = true) (hi : i ≤ 6) : ∀ L ∈ ghL xs bs i n, ∀ x ∈ L, (Lit.int .i32 x).wf = true := by
  intro L h x hx
  obtain ⟨g, rfl⟩ := ghL_mem h
  have hb : 0 ≤ x ∧ x ≤ 1000 * i := by
    simp only [ghH, List.mem_cons, List.not_mem_nil, or_false] at hx
    rcases hx with rfl | rfl | rfl | rfl | rfl | rfl | rfl | rfl <;> exact ghS_bd hf bs g _ i
  exact WalkArith.wf_i32 (by omega)
theorem ris_len {bs : List Int} (h : risOk bs = true) : bs.length ≤ 9 := by
  have h1 : ∀ j, j < bs.length → badAt bs j = false := by
    intro j hj
    have : ∀ j ∈ List.range bs.length, (!badAt bs j) = true := by simpa [risOk] using h
    simpa using this j (List.mem_range.2 hj)
  have h2 : ∀ j, j < bs.length → (j : Int) + 1 ≤ gd bs j ∧ gd bs j ≤ 9 := by
    intro j
    induction j with
    | zero =>
      intro hj
      have := h1 0 hj
      simp [badAt, inB] at this
      omega
    | succ j ih =>
      intro hj
      have h3 := ih (by omega)
      have := h1 (j + 1) hj
      simp [badAt, inB] at this
      omega
  by_cases hl : bs.length ≤ 9
  · exact hl
  · have := h2 9 (by omega)
    omega
def ghT (xs : List (Int × List Int)) (bs : List Int) : List (List Int) := ghL xs bs xs.length (bs.length + 1)
def ghOk (xs : List (Int × List Int)) (bs : List Int) : Bool := (ghT xs bs).all heapOk
def ghC (xs : List (Int × List Int)) (bs : List Int) : Int := if gfC xs bs = 0 then (if ghOk xs bs then 0 else 3) else gfC xs bs
def ghR (xs : List (Int × List Int)) (bs : List Int) : List (List Int) := if ghC xs bs = 0 then ghT xs bs else []
theorem ghC_0 {xs : List (Int × List Int)} {bs : List Int} (h : ghC xs bs = 0) : gfC xs bs = 0 := by
  unfold ghC at h
  split at h
  · assumption
  · exact h
theorem ghR_len (xs : List (Int × List Int)) (bs : List Int) : (ghR xs bs).length ≤ 10 := by
  unfold ghR
  split
  · rename_i h
    have := ris_len (flC_0 (ghC_0 h)).2.1
    unfold ghT
    rw [ghL_len]
    omega
  · simp
theorem gh_no {xs : List (Int × List Int)} {bs : List Int} {g : Nat} (hg : g < bs.length + 1) (h : heapOk (ghH xs bs xs.length g) = false) : ghOk xs bs = false := by
  unfold ghOk
  rw [List.all_eq_false]
  exact ⟨_, List.mem_of_getElem? (ghL_at hg), by simp [h]⟩
theorem gh_yes {xs : List (Int × List Int)} {bs : List Int} (h : ∀ g, g < bs.length + 1 → heapOk (ghH xs bs xs.length g) = true) : ghOk xs bs = true := by
  unfold ghOk
  rw [List.all_eq_true]
  intro L hL
  unfold ghT ghL at hL
  obtain ⟨g, hg, rfl⟩ := List.mem_map.1 hL
  exact h g (List.mem_range.1 hg)
end Go.Proofs.Ytjbaaomodcgdgaa
