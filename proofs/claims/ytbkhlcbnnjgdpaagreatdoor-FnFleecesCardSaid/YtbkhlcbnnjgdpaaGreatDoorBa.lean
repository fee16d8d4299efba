/- A small library over any program: how arguments read (whole numbers, arrays, structs, slices of such), the frame of a law's row, rows that are read. It names no program; Contracts of within and l00In: whether a number lies between two; Contracts of areAll, slices.ContainsFunc and slices.IndexFunc, at each element type: they ask whether all elements, or any, are as a function says; Contracts: lists of whole numbers: made anew, compared, marked, held, summed up; Contracts over webs: validity and total; Contracts over webs: folding, crossing, drawing out. -/
import Derived.WalkKit
import Derived.ProofKit
import Derived.OpenShut
import Derived.Below
import Derived.SizedLaws
import Derived.Carry
import Derived.Lib.SmallJoins
import Derived.KernelRfl
import Derived.Lib.Hide
import Derived.Handy
import Derived.Deep.AppendLies
import Derived.Deep.RegionHeld3
import Derived.Deep.DeepCutAuto
import Derived.WalkSpells
import Derived.Test.YtbkhlcbnnjgdpaaGreatDoorProg
import Derived.BigQuiet
import Derived.Deep.QuietTactic
import Derived.StillTailTactics
import Derived.OwnWalk
namespace Go.Proofs.YtbkhlcbnnjgdpaaGreatDoor
open Go.ChangeShapes Go.WideShapes Go.ChangeAt Go.RowKit
open Go.ChangeMaps (open_string shut_string)
set_option linter.unusedVariables false

def nums (k : IntKind) (xs : List Int) : List Value := xs.map fun x => .int k x
theorem nums_length (k : IntKind) (xs : List Int) : (nums k xs).length = xs.length := by simp [nums]
theorem nums_get (k : IntKind) (xs : List Int) (i : Nat) : (nums k xs)[i]? = (xs[i]?).map fun x => .int k x := by simp [nums]

/-- Whatever reads at type e has the cells of some y. -/
def Opens (P : Program) (e : TypeId) {α : Type} (C : α → List Value) (G : α → Prop) : Prop :=
  ∀ (H : Type) (enc : TypeId × Value → H) (w : World) (base : Nat) (spare : Nat → Bool) (held : Bool) (fuel : Nat) (cs : List Value) (x : DataW H × List MemPlace),
    DataW.trod enc P w base spare held fuel e cs = some x → ∃ y, cs = C y ∧ G y

theorem opens_int {P : Program} {t : TypeId} {k : IntKind} (ht : P.underlying t = some (.int k)) : Opens P t (fun n : Int => [.int k n]) (fun n => (Lit.int k n).wf = true) := by
  intro H enc w base spare held fuel cs x h
  obtain ⟨n, h1, _, h3⟩ := DataW.trod_int ht h
  exact ⟨n, h1, h3⟩

theorem opens_string {P : Program} {t : TypeId} (ht : P.underlying t = some .string) : Opens P t (fun s : ByteArray => [.string s]) (fun s => s.size ≤ maxLen) := by
  intro H enc w base spare held fuel cs x h
  obtain ⟨s, h1, _, h3⟩ := DataW.trod_string ht h
  exact ⟨s, h1, h3⟩

theorem opens_arr {P : Program} {t e : TypeId} {n : Nat} {k : IntKind} (ht : P.underlying t = some (.array n e)) (he : P.underlying e = some (.int k)) (hc : P.cellsOf e = 1) (hC : P.cellsOf t = n) :
    Opens P t (nums k) (fun h => h.length = n ∧ ∀ x ∈ h, (Lit.int k x).wf = true) := by
  intro H enc w base spare held fuel cs x h
  obtain ⟨xs, m, rfl, _, hl, hx, hi⟩ := DataW.trod_array ht h
  rw [hC] at hl
  have key : ∀ i, i < n → ∃ v : Int, cs[i]? = some (.int k v) ∧ (Lit.int k v).wf = true := by
    intro i hin
    have h1 := hi i hin
    rw [hc, Nat.mul_one, List.getElem?_eq_getElem (by omega)] at h1
    obtain ⟨v, h2, _, h3⟩ := DataW.trod_int he h1
    refine ⟨v, ?_, h3⟩
    have : (List.take 1 (List.drop i cs))[0]? = some (.int k v) := by rw [h2]; rfl
    simpa using this
  obtain ⟨f, hf⟩ := Deep.choose_lt key
  refine ⟨(List.range n).map f, ?_, by simp, ?_⟩
  · apply List.ext_getElem?
    intro i
    rcases Nat.lt_or_ge i n with h1 | h1
    · rw [(hf i h1).1]; simp [nums, h1]
    · rw [List.getElem?_eq_none (by omega)]; simp [nums, h1]
  · intro x hx
    obtain ⟨i, hi, rfl⟩ := List.mem_map.1 hx
    exact (hf i (List.mem_range.1 hi)).2

theorem opens_struct2 {P : Program} {t : TypeId} {f0 f1 : Field} {k0 k1 : IntKind} (ht : P.underlying t = some (.struct #[f0, f1])) (hC : P.cellsOf t = 2)
    (h0 : P.underlying f0.type = some (.int k0) ∧ f0.offset = 0 ∧ P.cellsOf f0.type = 1) (h1 : P.underlying f1.type = some (.int k1) ∧ f1.offset = 1 ∧ P.cellsOf f1.type = 1) :
    Opens P t (fun y : Int × Int => [.int k0 y.1, .int k1 y.2]) (fun y => (Lit.int k0 y.1).wf = true ∧ (Lit.int k1 y.2).wf = true) := by
  intro H enc w base spare held fuel cs x h
  obtain ⟨xs, m, rfl, _, hl, hx, hi⟩ := DataW.trod_struct ht h
  rw [hC] at hl
  have hx3 : xs.length = 2 := by simpa using hx
  have g0 := hi 0 f0 rfl
  have g1 := hi 1 f1 rfl
  rw [h0.2.1, h0.2.2, List.getElem?_eq_getElem (by omega)] at g0
  rw [h1.2.1, h1.2.2, List.getElem?_eq_getElem (by omega)] at g1
  obtain ⟨a, a1, _, a2⟩ := DataW.trod_int h0.1 g0
  obtain ⟨b, b1, _, b2⟩ := DataW.trod_int h1.1 g1
  refine ⟨(a, b), ?_, a2, b2⟩
  match cs, hl with
  | [x0, x1], _ =>
    simp at a1 b1
    subst a1 b1
    rfl

theorem opens_struct3 {P : Program} {t : TypeId} {f0 f1 f2 : Field} {k0 k1 k2 : IntKind} (ht : P.underlying t = some (.struct #[f0, f1, f2])) (hC : P.cellsOf t = 3)
    (h0 : P.underlying f0.type = some (.int k0) ∧ f0.offset = 0 ∧ P.cellsOf f0.type = 1) (h1 : P.underlying f1.type = some (.int k1) ∧ f1.offset = 1 ∧ P.cellsOf f1.type = 1) (h2 : P.underlying f2.type = some (.int k2) ∧ f2.offset = 2 ∧ P.cellsOf f2.type = 1) :
    Opens P t (fun y : Int × Int × Int => [.int k0 y.1, .int k1 y.2.1, .int k2 y.2.2]) (fun y => (Lit.int k0 y.1).wf = true ∧ (Lit.int k1 y.2.1).wf = true ∧ (Lit.int k2 y.2.2).wf = true) := by
  intro H enc w base spare held fuel cs x h
  obtain ⟨xs, m, rfl, _, hl, hx, hi⟩ := DataW.trod_struct ht h
  rw [hC] at hl
  have hx3 : xs.length = 3 := by simpa using hx
  have g0 := hi 0 f0 rfl
  have g1 := hi 1 f1 rfl
  have g2 := hi 2 f2 rfl
  rw [h0.2.1, h0.2.2, List.getElem?_eq_getElem (by omega)] at g0
  rw [h1.2.1, h1.2.2, List.getElem?_eq_getElem (by omega)] at g1
  rw [h2.2.1, h2.2.2, List.getElem?_eq_getElem (by omega)] at g2
  obtain ⟨a, a1, _, a2⟩ := DataW.trod_int h0.1 g0
  obtain ⟨b, b1, _, b2⟩ := DataW.trod_int h1.1 g1
  obtain ⟨c, c1, _, c2⟩ := DataW.trod_int h2.1 g2
  refine ⟨(a, b, c), ?_, a2, b2, c2⟩
  match cs, hl with
  | [x0, x1, x2], _ =>
    simp at a1 b1 c1
    subst a1 b1 c1
    rfl

/-- A struct of a whole number and an array of such. -/
theorem opens_struct_arr {P : Program} {t e : TypeId} {f0 f1 : Field} {k0 k : IntKind} {n : Nat} (ht : P.underlying t = some (.struct #[f0, f1])) (hC : P.cellsOf t = n + 1)
    (h0 : P.underlying f0.type = some (.int k0) ∧ f0.offset = 0 ∧ P.cellsOf f0.type = 1) (h1 : P.underlying f1.type = some (.array n e) ∧ f1.offset = 1 ∧ P.cellsOf f1.type = n) (he : P.underlying e = some (.int k)) (hc : P.cellsOf e = 1) :
    Opens P t (fun y : Int × List Int => .int k0 y.1 :: nums k y.2) (fun y => (Lit.int k0 y.1).wf = true ∧ y.2.length = n ∧ ∀ x ∈ y.2, (Lit.int k x).wf = true) := by
  intro H enc w base spare held fuel cs x h
  obtain ⟨xs, m, rfl, _, hl, hx, hi⟩ := DataW.trod_struct ht h
  rw [hC] at hl
  have hx3 : xs.length = 2 := by simpa using hx
  have g0 := hi 0 f0 rfl
  have g1 := hi 1 f1 rfl
  rw [h0.2.1, h0.2.2, List.getElem?_eq_getElem (by omega)] at g0
  rw [h1.2.1, h1.2.2, List.getElem?_eq_getElem (by omega)] at g1
  obtain ⟨a, a1, _, a2⟩ := DataW.trod_int h0.1 g0
  obtain ⟨b, b1, b2⟩ := opens_arr h1.1 he hc h1.2.2 _ _ _ _ _ _ _ _ _ g1
  refine ⟨(a, b), ?_, a2, b2⟩
  match cs, hl with
  | x0 :: r, hr =>
    simp at a1 b1 hr
    rw [List.take_of_length_le (by omega)] at b1
    subst a1 b1
    rfl

/-- The same behind a value. -/
theorem opens_value {P : Program} {t : TypeId} {α : Type} {C : α → List Value} {G : α → Prop} (ho : Opens P t C G) {H : Type} {enc : TypeId × Value → H} {w : World} {base : Nat} {spare : Nat → Bool} {held : Bool} {v : Value} {d : DataW H} {p : List MemPlace}
    (h : DataW.Trod enc P w base spare held t v d p) : ∃ y, v.cells.toList = C y ∧ G y := by
  obtain ⟨fuel, hf⟩ := h
  exact ho _ _ _ _ _ _ _ _ _ hf
theorem okWide_agg {P : Program} {w : World} {r : Reach} {base : Nat} {t : TypeId} {v : Value} (ht : (∃ fs, P.underlying t = some (.struct fs)) ∨ ∃ n e, P.underlying t = some (.array n e)) (h : Value.okWide P w r base t v) : ∃ cs, v = .agg cs := by
  rcases ht with ⟨fs, ht⟩ | ⟨n, e, ht⟩
  · obtain ⟨cs, h, _⟩ := okWide_struct ht h
    exact ⟨cs, h⟩
  · simp only [Value.okWide, ht] at h
    obtain ⟨cs, h1, _⟩ := h
    exact ⟨cs, h1⟩
theorem opens_agg {P : Program} {t : TypeId} {α : Type} {C : α → List Value} {G : α → Prop} (ho : Opens P t C G) {H : Type} {enc : TypeId × Value → H} {w w' : World} {base b' : Nat} {spare : Nat → Bool} {held : Bool} {v : Value} {d : DataW H} {p : List MemPlace} {r : Reach}
    (ht : (∃ fs, P.underlying t = some (.struct fs)) ∨ ∃ n e, P.underlying t = some (.array n e)) (hk : Value.okWide P w' r b' t v)
    (h : DataW.Trod enc P w base spare held t v d p) : ∃ y, v = .agg (C y).toArray ∧ G y := by
  obtain ⟨cs, rfl⟩ := okWide_agg ht hk
  obtain ⟨y, h1, h2⟩ := opens_value ho h
  refine ⟨y, ?_, h2⟩
  simp only [Value.cells] at h1
  rw [← h1]

/-- A slice that is read: element i has the cells C x. -/
def Rds {α : Type} (w : World) (A : Option Addr) (n sz : Nat) (C : α → List Value) (xs : List α) : Prop :=
  xs.length = n ∧ n ≤ 140737488351232 ∧ (0 < n → ∃ ad, A = some ad ∧ ∀ i x, xs[i]? = some x → ∀ j v, (C x)[j]? = some v → w.cell? (ad.add (i * sz + j)) = some v)

theorem opens_slice {P : Program} {t e : TypeId} {α : Type} {C : α → List Value} {G : α → Prop} (ho : Opens P e C G) [Inhabited α] {H : Type} {enc : TypeId × Value → H} {w : World} {base : Nat} {v : Value} {d : DataW H} {p : List MemPlace} {sz by_ : Nat}
    (ht : P.underlying t = some (.slice e)) (hsz : P.cellsOf e = sz) (hby : P.bytesOf e = by_) (hb0 : 0 < by_) {w' : World} {r : Reach} {b' : Nat} (hk : Value.okWide P w' r b' t v)
    {ts : List TypeId} {ds : List (DataW H)} {j : Nat} (hw : (DataW.weightsEach P ts ds).all (· ≤ reachBytes) = true) (hts : ts[j]? = some t) (hds : ds[j]? = some d)
    (h : DataW.Trod enc P w base (fun _ => true) true t v d p) : ∃ A n c xs, v = .slice A n c ∧ n ≤ c ∧ Rds w A n sz C xs ∧ (∀ x ∈ xs, G x) ∧ n * by_ ≤ 140737488351232 := by
  obtain ⟨A, n, c, rfl⟩ := okWide_slice ht hk
  obtain ⟨fuel, hf⟩ := h
  rcases Deep.open_slice ht hf with ⟨h1, h2⟩ | ⟨a, len, cap, m, q, D, Pl, h1, h2, h3, h4, h5, h6, h7⟩
  · simp [Value.cells] at h1
    obtain ⟨rfl, rfl, rfl⟩ := h1
    exact ⟨none, 0, 0, [], rfl, Nat.le_refl _, ⟨rfl, by omega, fun h => absurd h (Nat.lt_irrefl _)⟩, by simp, by simp⟩
  · simp [Value.cells] at h1
    obtain ⟨rfl, rfl, rfl⟩ := h1
    simp only [Prod.mk.injEq] at h6
    obtain ⟨rfl, _⟩ := h6
    simp at h5
    subst h5
    have z := sized_slice hw hts hds ht
    simp only [List.length_map, List.length_range] at z
    rw [hby, show n + (m - n) = m by omega] at z
    have zz : m * by_ ≤ 140737488351232 := by have := reachBytes_lt; unfold reachBytes at z; omega
    have hnb : n * by_ ≤ 140737488351232 := Nat.le_trans (Nat.mul_le_mul_right _ h3) zz
    have hn : n ≤ 140737488351232 := Nat.le_trans (Nat.le_mul_of_pos_right _ hb0) hnb
    obtain ⟨f, hfx⟩ := Deep.choose_lt (n := n) (p := fun i x => w.cells? base (a.add (i * P.cellsOf e)) (P.cellsOf e) = some (C x) ∧ G x) (fun i hi => by
      obtain ⟨cs', g1, g2⟩ := h7 i (by omega)
      obtain ⟨y, g3, g4⟩ := ho _ _ _ _ _ _ _ _ _ g2
      exact ⟨y, by rw [g1, g3], g4⟩)
    refine ⟨some a, n, m, (List.range n).map f, rfl, h3, ⟨by simp, hn, fun _ => ⟨a, rfl, ?_⟩⟩, ?_, hnb⟩
    · intro i x hx j v hv
      have hi : i < n := by
        rcases Nat.lt_or_ge i n with h | h
        · exact h
        · simp [h] at hx
      simp [hi] at hx
      subst hx
      obtain ⟨_, hl, hg⟩ := World.cells?_some (hfx i hi).1
      have hj : j < P.cellsOf e := by rw [← hl]; exact (List.getElem?_eq_some_iff.1 hv).1
      have := hg j hj
      rw [hv, Deep.add_add, hsz] at this
      exact this
    · intro x hx
      obtain ⟨i, hi, rfl⟩ := List.mem_map.1 hx
      exact (hfx i (List.mem_range.1 hi)).2

theorem below_then {B : Nat} {w w1 w2 : World} (h : Below B w w1) (hB : B ≤ w1.heap.size) (k : Below w1.heap.size w1 w2) : Below B w w2 :=
  h.trans ⟨k.os, k.tape, k.output, k.size, fun i hi => k.block i (Nat.lt_of_lt_of_le hi hB)⟩

theorem bcell {B : Nat} {W w1 : World} (hb : Below B W w1) : (∀ b o, b < B → w1.cell? ⟨b, o, none⟩ = W.cell? ⟨b, o, none⟩) ∧ (∀ b o, b < B → w1.frozen? ⟨b, o, none⟩ = W.frozen? ⟨b, o, none⟩) :=
  ⟨fun b o h => hb.cell (p := ⟨b, o, none⟩) h, fun b o h => hb.frozen (p := ⟨b, o, none⟩) h⟩

theorem below_alloc1 (w : World) (o1 : Obj) : Below w.heap.size w (w.alloc o1) := (Below.refl _ _).alloc (Nat.le_refl _) o1
theorem Rds.below {α : Type} {w w' : World} {A : Option Addr} {n sz : Nat} {C : α → List Value} {xs : List α} (R : Rds w A n sz C xs) (hb : Below w.heap.size w w') : Rds w' A n sz C xs := by
  refine ⟨R.1, R.2.1, fun hn => ?_⟩
  obtain ⟨ad, h1, h2⟩ := R.2.2 hn
  exact ⟨ad, h1, fun i x hx j v hv => by have h := h2 i x hx j v hv; exact (hb.cell (World.block_lt_of_cell? w _ h)).trans h⟩
/-- Element k of a slice whose elements have one cell. -/
theorem Rds.at1 {α : Type} {w : World} {A : Option Addr} {n : Nat} {V : α → Value} {xs : List α} (R : Rds w A n 1 (fun x => [V x]) xs) {k : Nat} (hk : k < n) :
    ∃ ad x, A = some ad ∧ xs[k]? = some x ∧ w.cell? (ad.add k) = some (V x) := by
  obtain ⟨ad, h1, h2⟩ := R.2.2 (by omega)
  have hx : xs[k]? = some (xs[k]'(by rw [R.1]; exact hk)) := List.getElem?_eq_getElem _
  refine ⟨ad, _, h1, hx, ?_⟩
  have h := h2 k _ hx 0 _ rfl
  rwa [Nat.mul_one, Nat.add_zero] at h

theorem Rds.cellOf {α : Type} {w : World} {ad : Addr} {n : Nat} {V : α → Value} {xs : List α} (R : Rds w (some ad) n 1 (fun x => [V x]) xs) {k : Nat} {x : α} (hx : xs[k]? = some x) : w.cell? (ad.add k) = some (V x) := by
  have hk : k < n := by rw [← R.1]; exact (List.getElem?_eq_some_iff.1 hx).1
  obtain ⟨ad', x', h1, h2, h3⟩ := R.at1 hk
  cases h1
  rw [hx] at h2
  cases h2
  exact h3
/-- The index of the first element that is as told, -1 if there is none. -/
def idxF {α : Type} (p : α → Bool) (xs : List α) : Int := match xs.findIdx? p with | some i => i | none => -1
/-- None of the first k elements is as told. -/
def NotYet {α : Type} (p : α → Bool) (xs : List α) (k : Nat) : Prop := ∀ i x, i < k → xs[i]? = some x → p x = false
theorem NotYet.zero {α : Type} (p : α → Bool) (xs : List α) : NotYet p xs 0 := fun i x h => absurd h (Nat.not_lt_zero _)
theorem NotYet.step {α : Type} {p : α → Bool} {xs : List α} {k : Nat} {x : α} (h : NotYet p xs k) (hx : xs[k]? = some x) (hp : p x = false) : NotYet p xs (k + 1) := by
  intro i y hi hy
  rcases Nat.lt_succ_iff_lt_or_eq.1 hi with h1 | rfl
  · exact h i y h1 hy
  · rw [hx] at hy; cases hy; exact hp
theorem idxF_at {α : Type} {p : α → Bool} {xs : List α} {k : Nat} {x : α} (h : NotYet p xs k) (hx : xs[k]? = some x) (hp : p x = true) : idxF p xs = k := by
  have : xs.findIdx? p = some k := by
    rw [List.findIdx?_eq_some_iff_getElem]
    obtain ⟨hk, rfl⟩ := List.getElem?_eq_some_iff.1 hx
    refine ⟨hk, hp, fun j hj => ?_⟩
    rw [h j _ hj (List.getElem?_eq_getElem (by omega))]
    simp
  simp [idxF, this]
theorem idxF_none {α : Type} {p : α → Bool} {xs : List α} (h : NotYet p xs xs.length) : idxF p xs = -1 := by
  have : xs.findIdx? p = none := by
    rw [List.findIdx?_eq_none_iff]
    intro x hx
    obtain ⟨i, hi, rfl⟩ := List.mem_iff_getElem.1 hx
    exact h i _ hi (List.getElem?_eq_getElem hi)
  simp [idxF, this]
theorem idxF_any {α : Type} (p : α → Bool) (xs : List α) : decide (0 ≤ idxF p xs) = xs.any p := by
  unfold idxF
  cases h : xs.findIdx? p with
  | none =>
    rw [List.findIdx?_eq_none_iff] at h
    have : xs.any p = false := by simpa using h
    simp [this]
  | some i =>
    obtain ⟨hi, hp, _⟩ := List.findIdx?_eq_some_iff_getElem.1 h
    have : xs.any p = true := List.any_eq_true.2 ⟨xs[i], List.getElem_mem hi, hp⟩
    rw [this]
    simp

theorem any_not {α : Type} (xs : List α) (p : α → Bool) : (xs.any fun x => !p x) = !xs.all p := by
  induction xs with
  | nil => rfl
  | cons x xs ih => simp [List.any_cons, List.all_cons, ih, Bool.not_and]
/-- A call of function k enters its body. -/
def Enters (P : Program) (k : FuncId) : Prop := ∀ args w, (callFunc k args).run P w = .ok (.enter k args) w
theorem enters_of {P : Program} {k : FuncId} {fn : Func} (h : P.funcs[k]? = some fn) (hb : fn.body.isNone = false) (hn : (fn.name == "runtime.NumGoroutine") = false) : Enters P k := by
  intro args w
  have hb' : ¬ fn.body = none := by cases hq : fn.body <;> simp_all
  have hn' : ¬ fn.name = "runtime.NumGoroutine" := by simpa using hn
  simp [callFunc, program, Sem.run_bind, Sem.run, h, hb', hn']

/-- make([]T, n) of whole numbers. -/
theorem run_make_n {P : Program} (t e : TypeId) {z : Value} {sz by_ : Nat} (ht : P.underlying t = some (.slice e)) (hinfo : (P.info? e).map (fun i => (i.zero, i.size, i.bytes)) = some (some z, sz, by_)) (m : Nat) (hn : by_ * m ≤ 281474976710656) (hm : m ≤ 281474976710656) :
    ∀ W : World, (Instr.makeSlice t (.int .i64 (m : Int)) (.int .i64 (m : Int))).run P W = .ok (.slice (some ⟨W.heap.size, 0, none⟩) m m) (W.alloc (.cells (madeCells z.cells (m * sz)) e)) := by
  intro W
  obtain ⟨i, hi, hz⟩ := Option.map_eq_some_iff.1 hinfo
  simp only [Prod.mk.injEq] at hz
  obtain ⟨h1, h2, h3⟩ := hz
  have := run_make (P := P) W t e i z ht hi h1 .i64 .i64 m m (Int.natCast_nonneg _) (Int.le_refl _) (by rw [h3]; omega) (by omega)
  rw [this, h2]
  rfl
theorem madeCells_int (k : IntKind) (m : Nat) : madeCells (Value.cells (.int k 0)) m = (nums k (List.replicate m 0)).toArray := by
  apply Array.ext
  · simp [nums, madeCells]
  · intro i h1 h2
    simp [nums, madeCells, Value.cells, Nat.mod_one]

theorem set_app {α : Type} (s t : List α) (x y : α) (i : Nat) (h : i = s.length) : (s ++ x :: t).set i y = s ++ y :: t := by
  subst h
  induction s with
  | nil => rfl
  | cons a s ih => simp [ih]
/-! A block that is known whole. -/
def Row (w : World) (B : Nat) (E : TypeId) (L : List Value) : Prop := w.heap[B]? = some (.cells L.toArray E (0, 0))
theorem Row.cell {w : World} {B : Nat} {E : TypeId} {L : List Value} (h : Row w B E L) (i : Nat) : w.cell? ⟨B, i, none⟩ = L[i]? := by
  rw [cell_of_row w B i _ E (0, 0) h]; simp
theorem Row.frozen {w : World} {B : Nat} {E : TypeId} {L : List Value} (h : Row w B E L) (i : Nat) : w.frozen? ⟨B, i, none⟩ = false := frozen_of_row w B i _ E h
theorem Row.set {w : World} {B : Nat} {E : TypeId} {L : List Value} (h : Row w B E L) (i : Nat) (v : Value) : Row (w.setCell ⟨B, i, none⟩ v) B E (L.set i v) := by
  have := heap_setCell_same w B i _ E v h
  rw [Row, this]
  simp
theorem Row.lt {w : World} {B : Nat} {E : TypeId} {L : List Value} (h : Row w B E L) : B < w.heap.size := (Array.getElem?_eq_some_iff.1 h).1
theorem Row.below {w w' : World} {B : Nat} {E : TypeId} {L : List Value} (h : Row w B E L) (hb : Below w.heap.size w w') : Row w' B E L := (hb.block B h.lt).trans h
theorem Row.apart {w : World} {B C : Nat} {E : TypeId} {L : List Value} (h : Row w B E L) (hne : B ≠ C) (i : Nat) (v : Value) : Row (w.setCell ⟨C, i, none⟩ v) B E L := (Below.heap_setCell w ⟨C, i, none⟩ v B hne).trans h
theorem Row.cells2 {w : World} {B : Nat} {E : TypeId} {x0 x1 : Value} (h : Row w B E [x0, x1]) : w.cell? ⟨B, 0, none⟩ = some x0 ∧ w.cell? ⟨B, 1, none⟩ = some x1 := ⟨h.cell 0, h.cell 1⟩
theorem Row.frozens2 {w : World} {B : Nat} {E : TypeId} {x0 x1 : Value} (h : Row w B E [x0, x1]) : w.frozen? ⟨B, 0, none⟩ = false ∧ w.frozen? ⟨B, 1, none⟩ = false := ⟨h.frozen 0, h.frozen 1⟩
theorem Row.cells3 {w : World} {B : Nat} {E : TypeId} {x0 x1 x2 : Value} (h : Row w B E [x0, x1, x2]) : w.cell? ⟨B, 0, none⟩ = some x0 ∧ w.cell? ⟨B, 1, none⟩ = some x1 ∧ w.cell? ⟨B, 2, none⟩ = some x2 := ⟨h.cell 0, h.cell 1, h.cell 2⟩
theorem Row.frozens3 {w : World} {B : Nat} {E : TypeId} {x0 x1 x2 : Value} (h : Row w B E [x0, x1, x2]) : w.frozen? ⟨B, 0, none⟩ = false ∧ w.frozen? ⟨B, 1, none⟩ = false ∧ w.frozen? ⟨B, 2, none⟩ = false := ⟨h.frozen 0, h.frozen 1, h.frozen 2⟩
theorem Row.cells8 {w : World} {B : Nat} {E : TypeId} {x0 x1 x2 x3 x4 x5 x6 x7 : Value} (h : Row w B E [x0, x1, x2, x3, x4, x5, x6, x7]) : w.cell? ⟨B, 0, none⟩ = some x0 ∧ w.cell? ⟨B, 1, none⟩ = some x1 ∧ w.cell? ⟨B, 2, none⟩ = some x2 ∧ w.cell? ⟨B, 3, none⟩ = some x3 ∧ w.cell? ⟨B, 4, none⟩ = some x4 ∧ w.cell? ⟨B, 5, none⟩ = some x5 ∧ w.cell? ⟨B, 6, none⟩ = some x6 ∧ w.cell? ⟨B, 7, none⟩ = some x7 := ⟨h.cell 0, h.cell 1, h.cell 2, h.cell 3, h.cell 4, h.cell 5, h.cell 6, h.cell 7⟩
theorem Row.frozens8 {w : World} {B : Nat} {E : TypeId} {x0 x1 x2 x3 x4 x5 x6 x7 : Value} (h : Row w B E [x0, x1, x2, x3, x4, x5, x6, x7]) : w.frozen? ⟨B, 0, none⟩ = false ∧ w.frozen? ⟨B, 1, none⟩ = false ∧ w.frozen? ⟨B, 2, none⟩ = false ∧ w.frozen? ⟨B, 3, none⟩ = false ∧ w.frozen? ⟨B, 4, none⟩ = false ∧ w.frozen? ⟨B, 5, none⟩ = false ∧ w.frozen? ⟨B, 6, none⟩ = false ∧ w.frozen? ⟨B, 7, none⟩ = false := ⟨h.frozen 0, h.frozen 1, h.frozen 2, h.frozen 3, h.frozen 4, h.frozen 5, h.frozen 6, h.frozen 7⟩
theorem Row.cells9 {w : World} {B : Nat} {E : TypeId} {x0 x1 x2 x3 x4 x5 x6 x7 x8 : Value} (h : Row w B E [x0, x1, x2, x3, x4, x5, x6, x7, x8]) : w.cell? ⟨B, 0, none⟩ = some x0 ∧ w.cell? ⟨B, 1, none⟩ = some x1 ∧ w.cell? ⟨B, 2, none⟩ = some x2 ∧ w.cell? ⟨B, 3, none⟩ = some x3 ∧ w.cell? ⟨B, 4, none⟩ = some x4 ∧ w.cell? ⟨B, 5, none⟩ = some x5 ∧ w.cell? ⟨B, 6, none⟩ = some x6 ∧ w.cell? ⟨B, 7, none⟩ = some x7 ∧ w.cell? ⟨B, 8, none⟩ = some x8 := ⟨h.cell 0, h.cell 1, h.cell 2, h.cell 3, h.cell 4, h.cell 5, h.cell 6, h.cell 7, h.cell 8⟩
theorem Row.frozens9 {w : World} {B : Nat} {E : TypeId} {x0 x1 x2 x3 x4 x5 x6 x7 x8 : Value} (h : Row w B E [x0, x1, x2, x3, x4, x5, x6, x7, x8]) : w.frozen? ⟨B, 0, none⟩ = false ∧ w.frozen? ⟨B, 1, none⟩ = false ∧ w.frozen? ⟨B, 2, none⟩ = false ∧ w.frozen? ⟨B, 3, none⟩ = false ∧ w.frozen? ⟨B, 4, none⟩ = false ∧ w.frozen? ⟨B, 5, none⟩ = false ∧ w.frozen? ⟨B, 6, none⟩ = false ∧ w.frozen? ⟨B, 7, none⟩ = false ∧ w.frozen? ⟨B, 8, none⟩ = false := ⟨h.frozen 0, h.frozen 1, h.frozen 2, h.frozen 3, h.frozen 4, h.frozen 5, h.frozen 6, h.frozen 7, h.frozen 8⟩
theorem Row.drew {w : World} {B : Nat} {E : TypeId} {L : List Value} (h : Row w B E L) : Row w.drew B E L := h
theorem Row.apart8 {w : World} {B : Nat} {E : TypeId} {L : List Value} (h : Row w B E L) (C : Nat) (hne : B ≠ C) (v0 v1 v2 v3 v4 v5 v6 v7 : Value) : Row ((((((((w.setCell ⟨C, 0, none⟩ v0).setCell ⟨C, 1, none⟩ v1).setCell ⟨C, 2, none⟩ v2).setCell ⟨C, 3, none⟩ v3).setCell ⟨C, 4, none⟩ v4).setCell ⟨C, 5, none⟩ v5).setCell ⟨C, 6, none⟩ v6).setCell ⟨C, 7, none⟩ v7) B E L := ((((((((h.apart hne 0 v0).apart hne 1 v1).apart hne 2 v2).apart hne 3 v3).apart hne 4 v4).apart hne 5 v5).apart hne 6 v6).apart hne 7 v7)
theorem Row.apart2 {w : World} {B : Nat} {E : TypeId} {L : List Value} (h : Row w B E L) (C : Nat) (hne : B ≠ C) (v0 v1 : Value) : Row ((w.setCell ⟨C, 0, none⟩ v0).setCell ⟨C, 1, none⟩ v1) B E L := (h.apart hne 0 v0).apart hne 1 v1
theorem Row.set2 {w : World} {B : Nat} {E : TypeId} {x0 x1 : Value} (h : Row w B E [x0, x1]) (v0 v1 : Value) : Row ((w.setCell ⟨B, 0, none⟩ v0).setCell ⟨B, 1, none⟩ v1) B E [v0, v1] := (h.set 0 v0).set 1 v1
theorem Row.set8 {w : World} {B : Nat} {E : TypeId} {x0 x1 x2 x3 x4 x5 x6 x7 : Value} (r : Row w B E [x0, x1, x2, x3, x4, x5, x6, x7]) (v0 v1 v2 v3 v4 v5 v6 v7 : Value) : Row ((((((((w.setCell ⟨B, 0, none⟩ v0).setCell ⟨B, 1, none⟩ v1).setCell ⟨B, 2, none⟩ v2).setCell ⟨B, 3, none⟩ v3).setCell ⟨B, 4, none⟩ v4).setCell ⟨B, 5, none⟩ v5).setCell ⟨B, 6, none⟩ v6).setCell ⟨B, 7, none⟩ v7) B E [v0, v1, v2, v3, v4, v5, v6, v7] := by
  have := ((((((((r.set 0 v0).set 1 v1).set 2 v2).set 3 v3).set 4 v4).set 5 v5).set 6 v6).set 7 v7)
  simpa using this
theorem Row.alloc (w : World) (L : List Value) (E : TypeId) : Row (w.alloc (.cells L.toArray E)) w.heap.size E L := heap_alloc_new w _
theorem Row.own {w : World} {B : Nat} {E : TypeId} {sz : Nat} {L : List Value} (h : Row w B E L) {n base : Nat} (hb : base ≤ B) (hn : n ≤ maxLen) (hL : L.length = n * sz) : w.ownsRow base E sz (.slice (some ⟨B, 0, none⟩) n n) n L :=
  ⟨hL, .inr ⟨B, n, _, rfl, hb, h, Nat.le_refl _, hn, by simpa using hL, by simp [← hL]⟩⟩
/-- What is owned and not empty is the head of a block. -/
theorem own_row {w : World} {base E sz n c : Nat} {A : Option Addr} {xs : List Value} (O : w.ownsRow base E sz (.slice A n c) n xs) (hn : 0 < n) (hs : 0 < sz) :
    ∃ g L, A = some ⟨g, 0, none⟩ ∧ base ≤ g ∧ Row w g E (xs ++ L) ∧ n ≤ c ∧ c ≤ maxLen ∧ xs.length + L.length = c * sz := by
  rcases O.2 with ⟨h1, h2⟩ | ⟨g, cap, cur, h1, h2, h3, h4, h5, h6, h7⟩
  · omega
  · simp only [Value.slice.injEq] at h1
    obtain ⟨rfl, _, rfl⟩ := h1
    refine ⟨g, cur.toList.drop (n * sz), rfl, h2, ?_, h4, h5, ?_⟩
    · rw [Row, ← h7, List.take_append_drop]; exact h3
    · rw [← h7, List.length_take, List.length_drop, Array.length_toList, h6]
      have : n * sz ≤ c * sz := Nat.mul_le_mul_right _ h4
      omega
theorem own_of_row {w : World} {base E sz n c g : Nat} {xs L : List Value} (h : Row w g E (xs ++ L)) (hb : base ≤ g) (hn : n ≤ c) (hc : c ≤ maxLen) (hx : xs.length = n * sz) (hl : xs.length + L.length = c * sz) :
    w.ownsRow base E sz (.slice (some ⟨g, 0, none⟩) n c) n xs :=
  ⟨hx, .inr ⟨g, c, _, rfl, hb, h, hn, hc, by simpa using hl, by simp [← hx]⟩⟩
theorem own_below {w w1 : World} {base : Nat} {e : TypeId} {size n : Nat} {v : Value} {xs : List Value} (h : w.ownsRow base e size v n xs) (hb : Below w.heap.size w w1) : w1.ownsRow base e size v n xs :=
  h.kept (row := none) ⟨hb.os, hb.tape, hb.output, hb.size, fun i hi _ => hb.block i hi⟩ (by cases v.ownBlock <;> simp)
theorem own_lower {w : World} {b b' : Nat} {e : TypeId} {s n : Nat} {v : Value} {xs : List Value} (h : w.ownsRow b e s v n xs) (hb : b' ≤ b) : w.ownsRow b' e s v n xs := by
  refine ⟨h.1, ?_⟩
  rcases h.2 with h2 | ⟨g, cap, cur, h1, h3, h4⟩
  · exact .inl h2
  · exact .inr ⟨g, cap, cur, h1, Nat.le_trans hb h3, h4⟩
theorem own_apart {w w1 : World} {b : Nat} {e : TypeId} {s n : Nat} {v v' : Value} {xs : List Value} (h : w.ownsRow b e s v n xs) (hg : w.grownBy w1 v'.ownBlock) (hne : ∀ k k', v.ownBlock = some k → v'.ownBlock = some k' → k ≠ k') : w1.ownsRow b e s v n xs := by
  refine h.kept hg ?_
  cases hv : v.ownBlock with
  | none => exact .inl rfl
  | some k =>
    refine .inr fun h => ?_
    exact hne k k hv h.symm rfl
theorem own_base {w : World} {base : Nat} {e : TypeId} {size n : Nat} {v : Value} {xs : List Value} (h : w.ownsRow base e size v n xs) : ∀ k, v.ownBlock = some k → base ≤ k ∧ k < w.heap.size := by
  intro k hk
  exact World.ownsRow.lt h k hk
/-- What is owned is read. -/
theorem own_rds {α : Type} {w : World} {base E sz n c : Nat} {A : Option Addr} {C : α → List Value} {xs : List α} (O : w.ownsRow base E sz (.slice A n c) n (xs.flatMap C)) (hC : ∀ x ∈ xs, (C x).length = sz) (hs : 0 < sz) (hn : n ≤ 140737488351232) : Rds w A n sz C xs := by
  have hl : ∀ ys : List α, (∀ y ∈ ys, (C y).length = sz) → (ys.flatMap C).length = ys.length * sz := by
    intro ys
    induction ys with
    | nil => intro _; simp
    | cons y ys ih =>
      intro h
      rw [List.flatMap_cons, List.length_append, ih (fun y hy => h y (by simp [hy])), h y (by simp), List.length_cons, Nat.add_mul]
      omega
  have hxl : xs.length = n := by
    have h1 := O.1
    rw [hl xs hC] at h1
    exact Nat.eq_of_mul_eq_mul_right hs h1
  refine ⟨hxl, hn, fun h0 => ?_⟩
  obtain ⟨g, L, rfl, h1, h2, h3, h4, h5⟩ := own_row O h0 hs
  refine ⟨_, rfl, fun i x hx j v hv => ?_⟩
  have hi : i < xs.length := (List.getElem?_eq_some_iff.1 hx).1
  have hj : j < sz := by have := (List.getElem?_eq_some_iff.1 hv).1; rwa [hC x (List.mem_of_getElem? hx)] at this
  have key : ∀ (ys : List α) (i : Nat) (x : α), (∀ y ∈ ys, (C y).length = sz) → ys[i]? = some x → (ys.flatMap C)[i * sz + j]? = (C x)[j]? := by
    intro ys
    induction ys with
    | nil => intro i x _ h; simp at h
    | cons y ys ih =>
      intro i x hh hy
      have hy1 := hh y (by simp)
      cases i with
      | zero =>
        simp at hy
        subst hy
        rw [Nat.zero_mul, Nat.zero_add, List.flatMap_cons, List.getElem?_append_left (by omega)]
      | succ i =>
        rw [List.flatMap_cons, List.getElem?_append_right (by rw [hy1, Nat.add_mul]; omega), hy1, show (i + 1) * sz + j - sz = i * sz + j by rw [Nat.add_mul]; omega]
        exact ih i x (fun z hz => hh z (by simp [hz])) (by simpa using hy)
  have ha : (⟨g, 0, none⟩ : Addr).add (i * sz + j) = ⟨g, i * sz + j, none⟩ := by unfold Addr.add; split <;> simp_all
  rw [ha, h2.cell, List.getElem?_append_left, key xs i x hC hx, hv]
  rw [hl xs hC]
  have : (i + 1) * sz ≤ xs.length * sz := Nat.mul_le_mul_right _ hi
  rw [Nat.add_mul] at this
  omega
theorem nums_flat (k : IntKind) (xs : List Int) : nums k xs = xs.flatMap fun x => [.int k x] := by
  induction xs with
  | nil => rfl
  | cons x xs ih => simp [nums, List.flatMap_cons] at *; exact ih
theorem own_rds1 {w : World} {base E n c : Nat} {A : Option Addr} {k : IntKind} {xs : List Int} (O : w.ownsRow base E 1 (.slice A n c) n (nums k xs)) (hn : n ≤ 140737488351232) : Rds w A n 1 (fun x : Int => [.int k x]) xs :=
  own_rds (by rw [← nums_flat]; exact O) (fun _ _ => rfl) (by omega) hn
theorem grown_trans {w w1 w2 : World} {row : Option Nat} (h : w.grownBy w1 row) (k : w1.grownBy w2 row) : w.grownBy w2 row :=
  ⟨k.os.trans h.os, k.tape.trans h.tape, k.output.trans h.output, Nat.le_trans h.size k.size, fun i hi hne => (k.block i (Nat.lt_of_lt_of_le hi h.size) hne).trans (h.block i hi hne)⟩
/-- append(v, ..) of what was just laid, onto a row of the call's own. -/
theorem app_any {P : Program} {ops : Array Oper} {rest : List Oper} {o : Oper} {a : Act} {Q : Exit → Act → World → Prop} {w0 W : World} (base : Nat) (hgd : o.guard = none) (s x : Operand) (t e : TypeId) (z : Value) (sz by_ : Nat)
    (ho : o.op = .call { callee := .builtin .append, args := #[s, x], argTypes := #[t, t] })
    (ht : P.underlying t = some (.slice e)) (hinfo : (P.info? e).map (fun i => (i.zero, i.size, i.bytes)) = some (some z, sz, by_)) (hz : z.cells.size = sz) (hsz : 0 < sz) (hb0 : 0 < by_)
    {A : Option Addr} {n c : Nat} (xs : List Value) (hs : a.eval s = .slice A n c) (m c2 : Nat) (news : List Value) (hx : a.eval x = .slice (some ⟨W.heap.size, 0, none⟩) m c2) (hl : news.length = m * sz) (h1 : ∀ u ∈ news, u.oneCell' = true)
    (O : W.ownsRow base e sz (.slice A n c) n xs) (HB : Below base w0 W) (hbase : base ≤ W.heap.size) (hlen : (n + m) * by_ ≤ 140737488355328)
    (h : ∀ A' c' w1, w1.ownsRow base e sz (.slice A' (n + m) c') (n + m) (xs ++ news) → Below base w0 w1 → W.grownBy w1 (Value.ownBlock (.slice A n c)) → wpList P ops Q rest (a.put o.dst (.slice A' (n + m) c')) w1) :
    wpList P ops Q (o :: rest) a (W.alloc (.cells news.toArray e)) := by
  obtain ⟨i0, hi, hzz⟩ := Option.map_eq_some_iff.1 hinfo
  simp only [Prod.mk.injEq] at hzz
  obtain ⟨hz0, hz1, hz2⟩ := hzz
  have hle : n + m ≤ 140737488355328 := Nat.le_trans (Nat.le_mul_of_pos_right _ hb0) hlen
  have hr : Row (W.alloc (.cells news.toArray e)) W.heap.size e news := Row.alloc W news e
  refine wpList_append_own (W.alloc (.cells news.toArray e)) hgd s x t ho base e i0 z sz by_ ht hi hz0 hz1 hz2 hz hsz (.slice A n c) n xs hs (O.alloc _) ⟨W.heap.size, 0, none⟩ m c2 news hx hl
    (fun j u hu => by have ha : (⟨W.heap.size, 0, none⟩ : Addr).add j = ⟨W.heap.size, j, none⟩ := by unfold Addr.add; split <;> simp_all
                      rw [ha, hr.cell]; exact hu) h1 (by simp only [maxLen]; omega) hlen (by simp only [World.size_alloc]; omega) ?_
  intro v1 w1 hown hg _
  have hv : ∃ A' c', v1 = .slice A' (n + m) c' := by
    rcases hown.2 with ⟨rfl, h0⟩ | ⟨g, cap, cur, rfl, _⟩
    · exact ⟨none, 0, by rw [h0]⟩
    · exact ⟨_, _, rfl⟩
  obtain ⟨A', c', rfl⟩ := hv
  exact h A' c' w1 hown ((HB.alloc hbase _).grown hg (by simp only [World.size_alloc]; omega) (fun k hk => (own_base O k hk).1)) (grown_trans (World.grownBy_alloc W _ _) hg)

/-- The same at a step of a region that draws its order. -/
theorem step_app {P : Program} {ops : Array Oper} {o : Oper} {a : Act} {K : Act → World → Prop} {Q : Exit → Act → World → Prop} {F : Prop} {w0 W W2 : World} (base : Nat) (hgd : o.guard = none) (s x : Operand) (t e : TypeId) (z : Value) (sz by_ : Nat)
    (ho : o.op = .call { callee := .builtin .append, args := #[s, x], argTypes := #[t, t] })
    (ht : P.underlying t = some (.slice e)) (hinfo : (P.info? e).map (fun i => (i.zero, i.size, i.bytes)) = some (some z, sz, by_)) (hz : z.cells.size = sz) (hsz : 0 < sz) (hb0 : 0 < by_)
    {A : Option Addr} {n c : Nat} (xs : List Value) (hs : a.eval s = .slice A n c) (m c2 : Nat) (news : List Value) (hx : a.eval x = .slice (some ⟨W.heap.size, 0, none⟩) m c2) (hl : news.length = m * sz) (h1 : ∀ u ∈ news, u.oneCell' = true)
    (hW2 : Below (W.heap.size + 1) (W.alloc (.cells news.toArray e)) W2 ∧ W2.heap.size = W.heap.size + 1)
    (O : W.ownsRow base e sz (.slice A n c) n xs) (HB : Below base w0 W) (hbase : base ≤ W.heap.size) (hm : 0 < m) (hlen : (n + m) * by_ ≤ 140737488355328)
    (h : ∀ A' c' w1, w1.ownsRow base e sz (.slice A' (n + m) c') (n + m) (xs ++ news) → Below base w0 w1 → K (a.put o.dst (.slice A' (n + m) c')) w1) :
    if Region.wanted o (yielded ops a.tmps) = true then Oper.wp P o a W2 K Q else F := by
  obtain ⟨i0, hi, hzz⟩ := Option.map_eq_some_iff.1 hinfo
  simp only [Prod.mk.injEq] at hzz
  obtain ⟨hz0, hz1, hz2⟩ := hzz
  have hle : n + m ≤ 140737488355328 := Nat.le_trans (Nat.le_mul_of_pos_right _ hb0) hlen
  have hr : Row (W.alloc (.cells news.toArray e)) W.heap.size e news := Row.alloc W news e
  have hr2 : Row W2 W.heap.size e news := (hW2.1.block _ (by omega)).trans hr
  have O2 : W2.ownsRow base e sz (.slice A n c) n xs := by
    have := O.alloc (.cells news.toArray e)
    exact own_below this ⟨hW2.1.os, hW2.1.tape, hW2.1.output, hW2.1.size, fun i hi => hW2.1.block i (by simpa using hi)⟩
  have HB2 : Below base w0 W2 := below_then (HB.alloc hbase _) (by simp only [World.size_alloc]; omega) ⟨hW2.1.os, hW2.1.tape, hW2.1.output, hW2.1.size, fun i hi => hW2.1.block i (by simpa using hi)⟩
  refine step_append_lies W2 hgd s x t ho base e i0 z sz by_ ht hi hz0 hz1 hz2 hz hsz (.slice A n c) n xs hs O2 ⟨W.heap.size, 0, none⟩ m c2 news hx hl
    (fun j u hu => by have ha : (⟨W.heap.size, 0, none⟩ : Addr).add j = ⟨W.heap.size, j, none⟩ := by unfold Addr.add; split <;> simp_all
                      rw [ha, hr2.cell]; exact hu) h1 hm (by simp only [maxLen]; omega) hlen (by rw [hW2.2]; omega) _ rfl ?_
  intro g cap w1 hown hg _ _
  exact h _ _ w1 hown (HB2.grown hg (by rw [hW2.2]; omega) (fun k hk => (own_base O2 k hk).1))

/-- A slice of the call's own comes back, alone or ahead of other results. -/
def RetOwn (E sz n : Nat) (cells : List Value) (w : World) (e : Ending) (w' : World) : Prop :=
  ∃ A c, e = .returned (.slice A n c) ∧ w'.ownsRow w.heap.size E sz (.slice A n c) n cells ∧ Below w.heap.size w w'
def RetOwnT (E sz n : Nat) (cells tail : List Value) (w : World) (e : Ending) (w' : World) : Prop :=
  ∃ A c, e = .returned (.tuple (.slice A n c :: tail).toArray) ∧ w'.ownsRow w.heap.size E sz (.slice A n c) n cells ∧ Below w.heap.size w w'

/-! the frame of a law -/
theorem trodAll_below {H : Type} {enc : TypeId × Value → H} {P : Program} (hl : laidOutB P = true) {W W' : World} (hb : Below W.heap.size W W') :
    ∀ {ts : List TypeId} {vs : List Value} {ds : List (DataW H)} {ps : List MemPlace}, (∀ t ∈ ts, P.readableRec t = true ∧ t < P.types.size) → DataW.TrodAll enc P W 0 (fun _ => true) true ts vs ds ps → DataW.TrodAll enc P W' 0 (fun b => decide (b < W.heap.size)) true ts vs ds ps
  | [], [], [], _, _, h => h
  | [], _ :: _, _, _, _, h => h.elim
  | [], [], _ :: _, _, _, h => h.elim
  | _ :: _, [], _, _, _, h => h.elim
  | _ :: _, _ :: _, [], _, _, h => h.elim
  | t :: ts, v :: vs, d :: ds, _, hr, ⟨p, q, h1, h2, e⟩ =>
    ⟨p, q, Below.trod hl (hr t (by simp)).1 (hr t (by simp)).2 h1 hb (by obtain ⟨m, hm⟩ := h1; exact DataW.trod_lt m _ _ _ hm), trodAll_below hl hb (fun t ht => hr t (by simp [ht])) h2, e⟩

theorem law_lifted {C : Checked} {os : Os} {f : FuncId} {fn : Func} {s : ChangeSpec} {H : Type} {enc : TypeId × Value → H} {tb : TypeId}
    (own : ownKnob C.prog.godebug = none) (started : os.Started) (noInit : C.prog.inits.idxOf? f = none) (hfn : C.prog.funcs[f]? = some fn) (laid : laidOutB C.prog = true)
    (hv : s.vars = []) (hres : fn.resultTypes = #[tb]) (hb : C.prog.underlying tb = some .bool) (hread : ∀ t ∈ fn.params.toList, C.prog.readableRec t = true ∧ t < C.prog.types.size)
    (witness : ∃ (w : World) (tape : Tape) (i : Input), w.os = os ∧ (w.forCall tape i).Shaped C.prog ∧ i.vars = [] ∧ Input.okWide C.prog (w.forCall tape i) .any w.heap.size f i ∧
      s.pre6 enc C.prog fn [] false (w.forCall tape i).memory i.args ∧ (({} : Assume)).holds C.prog (lone (Frame.enter C.prog f i.args .normal) [] (w.forCall tape i)))
    (hspec : ∀ (ds : List (DataW H)) (W : World) (args : Array Value) (p : List MemPlace), DataW.TrodAll enc C.prog W 0 (fun _ => true) true fn.params.toList args.toList ds p → (s.fn H ds).results = [.lit (.bool true)] ∧ (s.fn H ds).args = ds ∧ (s.fn H ds).vars = [])
    (walk : ∀ (W : World) (base : Nat) (args : Array Value) (ds : List (DataW H)) (p : List MemPlace),
      (∀ (j : Nat) t v, fn.params[j]? = some t → args[j]? = some v → Value.okWide C.prog W .any base t v) →
      DataW.TrodAll enc C.prog W 0 (fun _ => true) true fn.params.toList args.toList ds p →
      (DataW.weightsEach C.prog fn.params.toList ds).all (· ≤ reachBytes) = true →
      Calls C.prog f args W fun e W' => e = .returned (.bool true) ∧ Below W.heap.size W W') :
    ReturnsInHanded {} C os f .any (s.pre6 enc C.prog fn [] false) (s.post enc C.prog fn false true false false) := by
  refine returnsInHanded_of_change_sized (C := C) own started noInit hfn witness ?_
  intro W base args ds gs before hval hW _ hsz _
  have hW' := hW
  obtain ⟨p, q, hA, hV, rfl, hfz, hnd⟩ := hW
  have hvt : s.plain.varTypes C.prog = [] := by simp [ChangeSpec.plain, DataSpec.varTypes, hv]
  rw [hv] at hV
  obtain ⟨rfl, rfl⟩ := trodVars_none hV
  simp only [List.append_nil, hvt] at hW' hsz
  refine (walk W base args ds p hval hA hsz).mono fun e W' ⟨he, bel⟩ => ?_
  subst he
  obtain ⟨hs1, hs2, hs3⟩ := hspec ds W args p hA
  refine ⟨_, rfl, ds, [], p, [], p, [], hW', ?_, ?_, ?_, bel.frame _, fun h => by cases h⟩
  · rw [List.append_nil, hs1, hres]
    exact trodAll_mk1 (shut_bool hb _)
  · rw [List.append_nil, hs2]
    exact trodAll_below laid bel hread hA
  · rw [List.append_nil, hv, hs3]
    rfl
end Go.Proofs.YtbkhlcbnnjgdpaaGreatDoor
namespace Go.Proofs.YtbkhlcbnnjgdpaaGreatDoor
open Go.RowKit
set_option linter.unusedVariables false
set_option linter.unusedSimpArgs false

def inB (n lo hi : Int) : Bool := decide (lo ≤ n ∧ n ≤ hi)
theorem within_any (n lo hi : Int) (w : World) : Calls Tryz.prog 40 #[.int .i64 n, .int .i64 lo, .int .i64 hi] w fun e w' => e = .returned (.bool (inB n lo hi)) ∧ w = w' := by
  by_cases h1 : lo ≤ n <;> by_cases h2 : n ≤ hi
  all_goals
    go_enter Tryz.func40, Tryz.ntmps40
    go_wp2
    go_ret
    exact ⟨by simp [inB, *], rfl⟩
theorem l00In_any (n lo hi : Int) (w : World) : Calls Tryz.prog 41 #[.int .i64 n, .int .i64 lo, .int .i64 hi] w fun e w' => e = .returned (.bool (inB n lo hi)) ∧ w = w' := by
  by_cases h1 : lo ≤ n <;> by_cases h2 : n ≤ hi
  all_goals
    go_enter Tryz.func41, Tryz.ntmps41
    go_wp2
    go_ret
    exact ⟨by simp [inB, *], rfl⟩
def jn (c x : Int) : Int := if c = 0 then x else 0
theorem jn_0 (x : Int) : jn 0 x = x := rfl
theorem ret_bool {a b : Bool} (h : a = b) : Ending.returned (.bool a) = .returned (.bool b) := by rw [h]
theorem ret_int0 {k : IntKind} {a b : Int} (h : a = b) : Ending.returned (.int k a) = .returned (.int k b) := by rw [h]
theorem l00Min_any (a b : Int) (w : World) : Calls Tryz.prog 44 #[.int .i64 a, .int .i64 b] w fun e w' => e = .returned (.int .i64 (min a b)) ∧ w = w' := by
  by_cases h : a < b
  all_goals
    go_enter Tryz.func44, Tryz.ntmps44
    go_wp2
    go_ret
    exact ⟨ret_int0 (by omega), rfl⟩
theorem l00Max_any (a b : Int) (w : World) : Calls Tryz.prog 80 #[.int .i64 a, .int .i64 b] w fun e w' => e = .returned (.int .i64 (max a b)) ∧ w = w' := by
  by_cases h : b < a
  all_goals
    go_enter Tryz.func80, Tryz.ntmps80
    go_wp2
    go_ret
    exact ⟨ret_int0 (by omega), rfl⟩
end Go.Proofs.YtbkhlcbnnjgdpaaGreatDoor
namespace Go.Proofs.YtbkhlcbnnjgdpaaGreatDoor
open Go.RowKit
set_option linter.unusedVariables false
set_option linter.unusedSimpArgs false

theorem indexFunc_i32 {k : FuncId} {cap : Array Value} {p : Int → Bool} {I : World → Prop} {xs : List Int} (hI : ∀ w w', I w → Below w.heap.size w w' → I w')
    (hk : Enters Tryz.prog k) (hf : Hid (∀ x w, x ∈ xs → I w → Calls Tryz.prog k (#[.int .i32 x] ++ cap) w fun e w' => e = .returned (.bool (p x)) ∧ Below w.heap.size w w'))
    (A : Option Addr) (n c : Nat) (w : World) (R : Rds w A n 1 (fun x : Int => [.int .i32 x]) xs) (hw : I w) :
    Calls Tryz.prog 94 #[.slice A n c, .func (.func k) #[] cap] w fun e w' => e = .returned (.int .i64 (idxF p xs)) ∧ Below w.heap.size w w' := by
  have hl := R.1
  have hn := R.2.1
  have HL := Lib.hid hl; clear hl
  have HI := Lib.hid hI; clear hI
  have hk' : ∀ args w, (callFunc k args).run Tryz.prog w = .ok (.enter k args) w := hk
  clear hk
  go_enter Tryz.func94, Tryz.ntmps94
  go_wp2_with fail
  go_loopw [4, 8] (fun r v wr => ∃ k : Nat, k ≤ n ∧ v = .int .i64 k ∧ r = .int .i64 0 ∧ NotYet p xs k ∧ Below w.heap.size w wr ∧ I wr) (fun _ v _ => n - (intOf v).toNat)
  case atStart => exact ⟨0, by omega, rfl, rfl, NotYet.zero _ _, Below.refl _ _, hw⟩
  case round =>
    obtain ⟨j, hj, rfl, rfl, hny, hB, hIr⟩ := hrel
    by_cases hlt : j < n
    · obtain ⟨ad, x, rfl, hx, hc⟩ := (R.below hB).at1 hlt
      have HX := Lib.hid hx; clear hx
      have hm : x ∈ xs := List.mem_of_getElem? HX.out
      go_wp2_with ((with_reducible refine (hf.out x _ hm hIr).mono ?_); rintro e w1 ⟨rfl, hb1⟩)
      · go_ret
        exact ⟨by rw [idxF_at hny HX.out (by assumption)]; rfl, below_then hB hB.size hb1⟩
      · go_roundw
        case rel => exact ⟨j + 1, by omega, by go_num, rfl, hny.step HX.out (by simp_all), below_then hB hB.size hb1, HI.out _ _ hIr hb1⟩
        case measure => simp [intOf]; omega
    · go_wp2_with fail
      go_ret
      have hjn : j = xs.length := by rw [HL.out]; omega
      exact ⟨by rw [idxF_none (hjn ▸ hny)]; rfl, hB⟩

theorem containsFunc_i32 {k : FuncId} {cap : Array Value} {p : Int → Bool} {I : World → Prop} {xs : List Int} (hI : ∀ w w', I w → Below w.heap.size w w' → I w')
    (hk : Enters Tryz.prog k) (hf : Hid (∀ x w, x ∈ xs → I w → Calls Tryz.prog k (#[.int .i32 x] ++ cap) w fun e w' => e = .returned (.bool (p x)) ∧ Below w.heap.size w w'))
    (A : Option Addr) (n c : Nat) (w : World) (R : Rds w A n 1 (fun x : Int => [.int .i32 x]) xs) (hw : I w) :
    Calls Tryz.prog 75 #[.slice A n c, .func (.func k) #[] cap] w fun e w' => e = .returned (.bool (xs.any p)) ∧ Below w.heap.size w w' := by
  have HI := Lib.hid hI; clear hI
  have HK := Lib.hid hk; clear hk
  go_enter Tryz.func75, Tryz.ntmps75
  go_wp2_with (go_at_call 94; (with_reducible refine (indexFunc_i32 HI.out HK.out hf A n c _ R hw).mono ?_); rintro e w1 ⟨rfl, hb⟩)
  go_ret
  exact ⟨by rw [← idxF_any]; rfl, hb⟩
theorem areAll1_i32 {k : FuncId} {p : Int → Bool} (hk : Enters Tryz.prog k) (x : Int) (b : Nat) (w : World) (hc : w.cell? ⟨b, 0, none⟩ = some (.func (.func k) #[] #[]))
    (hf : Hid (Calls Tryz.prog k #[.int .i32 x] w fun e w' => e = .returned (.bool (p x)) ∧ Below w.heap.size w w')) :
    Calls Tryz.prog 76 #[.int .i32 x, .pointer (some ⟨b, 0, none⟩)] w fun e w' => e = .returned (.bool (!p x)) ∧ Below w.heap.size w w' := by
  have hk' : ∀ args w, (callFunc k args).run Tryz.prog w = .ok (.enter k args) w := hk
  clear hk
  go_enter Tryz.func76, Tryz.ntmps76
  go_wp2_with ((with_reducible refine hf.out.mono ?_); rintro e w1 ⟨rfl, hb⟩)
  go_ret
  exact ⟨rfl, hb⟩
/-- areAll: whether all elements are as the function k says. -/
theorem areAll_i32 {k : FuncId} {p : Int → Bool} {xs : List Int} (hk : Enters Tryz.prog k) (hf : Hid (∀ x w, x ∈ xs → Calls Tryz.prog k #[.int .i32 x] w fun e w' => e = .returned (.bool (p x)) ∧ Below w.heap.size w w'))
    (A : Option Addr) (n c : Nat) (w : World) (R : Rds w A n 1 (fun x : Int => [.int .i32 x]) xs) :
    Calls Tryz.prog 49 #[.slice A n c, .func (.func k) #[] #[]] w fun e w' => e = .returned (.bool (xs.all p)) ∧ Below w.heap.size w w' := by
  have HK := Lib.hid hk; clear hk
  have R1 := R.below (below_alloc1 w (.cells #[.func (.func k) #[] #[]] 81))
  clear R
  go_enter Tryz.func49, Tryz.ntmps49
  go_wp2_with (go_at_call 75; (refine (containsFunc_i32 (k := 76) (cap := #[.pointer (some ⟨w.heap.size, 0, none⟩)]) (p := fun x => !p x) (I := fun w' => w'.cell? ⟨w.heap.size, 0, none⟩ = some (.func (.func k) #[] #[])) (xs := xs) ?_ (enters_of Tryz.func76 rfl (by decide)) ?_ A n c _ R1 ?_).mono ?_); rotate_left 3; rintro e w1 ⟨rfl, hb⟩)
  case refine_1 => exact fun w1 w2 h hb => (hb.cell (World.block_lt_of_cell? _ _ h)).trans h
  case refine_2 => exact fun x w1 hx hc => areAll1_i32 HK.out x _ w1 hc (hf.out x w1 hx)
  case refine_3 => simp [go_sem]
  go_ret
  exact ⟨by simp [any_not], below_then (below_alloc1 w _) (by go_size) hb⟩





end Go.Proofs.YtbkhlcbnnjgdpaaGreatDoor
namespace Go.Proofs.YtbkhlcbnnjgdpaaGreatDoor
open Go.RowKit
set_option linter.unusedVariables false
set_option linter.unusedSimpArgs false

def sumTo (xs : List Int) (k : Nat) : Int := (xs.take k).sum
theorem sumTo_step {xs : List Int} {k : Nat} {x : Int} (h : xs[k]? = some x) : sumTo xs (k + 1) = sumTo xs k + x := by
  unfold sumTo
  rw [List.take_add_one, h, List.sum_append]
  simp
theorem sumTo_bound {xs : List Int} {M : Int} (hM : 0 ≤ M) (h : ∀ x ∈ xs, 0 ≤ x ∧ x ≤ M) (k : Nat) : 0 ≤ sumTo xs k ∧ sumTo xs k ≤ k * M := by
  induction k with
  | zero => simp [sumTo]
  | succ k ih =>
    cases hx : xs[k]? with
    | none =>
      have : sumTo xs (k + 1) = sumTo xs k := by unfold sumTo; rw [List.take_add_one, hx]; simp
      rw [this]
      refine ⟨ih.1, Int.le_trans ih.2 ?_⟩
      exact Int.mul_le_mul_of_nonneg_right (by omega) hM
    | some x =>
      rw [sumTo_step hx]
      have := h x (List.mem_of_getElem? hx)
      have h2 : ((k + 1 : Nat) : Int) * M = k * M + M := by rw [Int.natCast_succ, Int.add_mul, Int.one_mul]
      omega
theorem sumTo_all (xs : List Int) : sumTo xs xs.length = xs.sum := by simp [sumTo]
abbrev IC (x : Int) : List Value := [.int .i64 x]
def SumB (xs : List Int) (n : Nat) : Prop := xs.length = n ∧ ∀ k, k ≤ n → -1000000000000000 ≤ sumTo xs k ∧ sumTo xs k ≤ 1000000000000000
theorem ret_int {k : IntKind} {a b : Int} (h : a = b) : Ending.returned (.int k a) = .returned (.int k b) := by rw [h]

end Go.Proofs.YtbkhlcbnnjgdpaaGreatDoor
namespace Go.Proofs.YtbkhlcbnnjgdpaaGreatDoor
open Go.RowKit
set_option linter.unusedVariables false
set_option linter.unusedSimpArgs false

def webOk (xs : List Int) : Bool := inB (xs.length : Int) 2 12 && (((xs.length : Int) % 2 == 0) && xs.all fun x => inB x 0 10000)
theorem inB_iff {n lo hi : Int} : inB n lo hi = true ↔ lo ≤ n ∧ n ≤ hi := by simp [inB]
theorem webOk_bd {xs : List Int} (h : webOk xs = true) : 2 ≤ xs.length ∧ xs.length ≤ 12 ∧ xs.length % 2 = 0 ∧ ∀ x ∈ xs, 0 ≤ x ∧ x ≤ 10000 := by
  simp only [webOk, Bool.and_eq_true, inB_iff, beq_iff_eq, List.all_eq_true] at h
  obtain ⟨h1, h2, h3⟩ := h
  exact ⟨by omega, by omega, by omega, h3⟩
theorem SumB.of {xs : List Int} {n : Nat} {M : Int} (hl : xs.length = n) (hM : 0 ≤ M) (hM2 : M ≤ 1000000000) (hn : n ≤ 1000000) (h : ∀ x ∈ xs, 0 ≤ x ∧ x ≤ M) : SumB xs n := by
  refine ⟨hl, fun k hk => ?_⟩
  obtain ⟨h1, h2⟩ := sumTo_bound hM h k
  have : (k : Int) * M ≤ 1000000 * 1000000000 := Int.mul_le_mul (by omega) hM2 hM (by omega)
  omega
theorem webOk_sum {xs : List Int} {n : Nat} (hl : xs.length = n) (h : webOk xs = true) : SumB xs n := by
  obtain ⟨h1, h2, h3, h4⟩ := webOk_bd h
  exact SumB.of hl (by omega) (by omega) (by omega) h4
def totV (xs : List Int) : Int := if webOk xs then xs.sum else 0
/-- The code of a web: 0, or 1 if it is not valid. -/
def okC (xs : List Int) : Int := if webOk xs then 0 else 1
end Go.Proofs.YtbkhlcbnnjgdpaaGreatDoor
namespace Go.Proofs.YtbkhlcbnnjgdpaaGreatDoor
open Go.RowKit
set_option linter.unusedVariables false
set_option linter.unusedSimpArgs false
def gd (xs : List Int) (k : Nat) : Int := xs.getD k 0
theorem gd_of {xs : List Int} {k : Nat} {x : Int} (h : xs[k]? = some x) : gd xs k = x := by simp [gd, List.getD_eq_getElem?_getD, h]
def foldTo (xs : List Int) (k : Nat) : List Int := (List.range k).map fun i => gd xs i + gd xs (xs.length - 1 - i)
def crossTo (xs : List Int) (k : Nat) : List Int := (List.range k).map fun i => gd xs i + gd xs (i + xs.length / 2)
def foldL (xs : List Int) : List Int := foldTo xs (xs.length / 2)
def crossL (xs : List Int) : List Int := crossTo xs (xs.length / 2)
theorem foldTo_succ (xs : List Int) (k : Nat) : foldTo xs (k + 1) = foldTo xs k ++ [gd xs k + gd xs (xs.length - 1 - k)] := by simp [foldTo, List.range_succ]
theorem foldTo_length (xs : List Int) (k : Nat) : (foldTo xs k).length = k := by simp [foldTo]
theorem crossTo_succ (xs : List Int) (k : Nat) : crossTo xs (k + 1) = crossTo xs k ++ [gd xs k + gd xs (k + xs.length / 2)] := by simp [crossTo, List.range_succ]
theorem crossTo_length (xs : List Int) (k : Nat) : (crossTo xs k).length = k := by simp [crossTo]
def Small (xs : List Int) : Prop := ∀ x ∈ xs, 0 ≤ x ∧ x ≤ 20000
theorem Small.at {xs : List Int} (h : Small xs) {k : Nat} {x : Int} (hx : xs[k]? = some x) : 0 ≤ x ∧ x ≤ 20000 := h x (List.mem_of_getElem? hx)
theorem webOk_small {xs : List Int} (h : webOk xs = true) : Small xs := fun x hx => by have := (webOk_bd h).2.2.2 x hx; omega
theorem gd_small {xs : List Int} (hS : Small xs) (k : Nat) : 0 ≤ gd xs k ∧ gd xs k ≤ 20000 := by
  cases h : xs[k]? with
  | none => simp [gd, List.getD_eq_getElem?_getD, h]
  | some x => rw [gd_of h]; exact hS.at h
theorem info_i64 : (Tryz.prog.info? 2).map (fun i => (i.zero, i.size, i.bytes)) = some (some (.int .i64 0), 1, 8) := by kernel_rfl
theorem nums_snoc (xs : List Int) (y : Int) : nums .i64 (xs ++ [y]) = nums .i64 xs ++ [.int .i64 y] := by simp [nums]
theorem own_empty (W : World) (e : TypeId) (size : Nat) : (W.alloc (.cells #[] e)).ownsRow W.heap.size e size (.slice (some ⟨W.heap.size, 0, none⟩) 0 0) 0 [] := (Row.alloc W [] e).own (Nat.le_refl _) (by simp [maxLen]) (by simp)
theorem own_nil (W : World) (base : Nat) (e : TypeId) (size : Nat) : W.ownsRow base e size (.slice none 0 0) 0 [] := ⟨by simp, .inl ⟨rfl, rfl⟩⟩

end Go.Proofs.YtbkhlcbnnjgdpaaGreatDoor
