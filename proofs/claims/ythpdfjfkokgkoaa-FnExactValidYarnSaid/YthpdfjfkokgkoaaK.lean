/- A small library over any program: how arguments read (whole numbers, arrays, structs, slices of such), the frame of a law's row, rows that are read. It names no program. -/
import Derived.WalkKit
import Derived.ProofKit
import Derived.OpenShut
import Derived.Below
import Derived.SizedLaws
import Derived.Carry
import Derived.Lib.SmallJoins
import Derived.KernelRfl
namespace Go.Proofs.Ythpdfjfkokgkoaa
open Go.ChangeShapes Go.WideShapes Go.ChangeAt Go.RowKit
open Go.ChangeMaps (open_string shut_string)
set_option linter.unusedVariables false

def nums (k : IntKind) (xs : List Int) : List Value := xs.map fun x => .int k x
theorem nums_length (k : IntKind) (xs : List Int) : (nums k xs).length = xs.length := by simp [nums]
theorem nums_get (k : IntKind) (xs : List Int) (i : Nat) : (nums k xs)[i]? = (xs[i]?).map fun x => .int k x := by simp [nums]

/-- Whatever reads at type e has the cells of some y. -/
def Opens (P : Program) (e : TypeId) {α : Type} (C : α → List Value) (G : α → Prop) : Prop :=
  ∀ (H : Type) (enc : TypeId × Value → H) (w : World) (base : Nat) (spare : Nat → Bool) (held : Bool) (fuel : Nat) (cs : List Value) (x : DataW H × List MemPlace),
    DataW.trod enc P w base spare held fuel e cs = some x → ∃ y, cs = C y ∧ G y

theorem opens_int {P : Program} {t : TypeId} {k : IntKind} (ht : P.underlying t = some (.int k)) : Opens P t (fun n : Int => [.int k n]) (fun n => (Lit.int k n).wf = true) := by
  intro H enc w base spare held fuel cs x h
  obtain ⟨n, h1, _, h3⟩ := DataW.trod_int ht h
  exact ⟨n, h1, h3⟩

theorem opens_string {P : Program} {t : TypeId} (ht : P.underlying t = some .string) : Opens P t (fun s : ByteArray => [.string s]) (fun s => s.size ≤ maxLen) := by
  intro H enc w base spare held fuel cs x h
  obtain ⟨s, h1, _, h3⟩ := DataW.trod_string ht h
  exact ⟨s, h1, h3⟩

theorem opens_arr {P : Program} {t e : TypeId} {n : Nat} {k : IntKind} (ht : P.underlying t = some (.array n e)) (he : P.underlying e = some (.int k)) (hc : P.cellsOf e = 1) (hC : P.cellsOf t = n) :
    Opens P t (nums k) (fun h => h.length = n ∧ ∀ x ∈ h, (Lit.int k x).wf = true) := by
  intro H enc w base spare held fuel cs x h
  obtain ⟨xs, m, rfl, _, hl, hx, hi⟩ := DataW.trod_array ht h
  rw [hC] at hl
  have key : ∀ i, i < n → ∃ v : Int, cs[i]? = some (.int k v) ∧ (Lit.int k v).wf = true := by
    intro i hin
    have h1 := hi i hin
    rw [hc, Nat.mul_one, List.getElem?_eq_getElem (by omega)] at h1
    obtain ⟨v, h2, _, h3⟩ := DataW.trod_int he h1
    refine ⟨v, ?_, h3⟩
    have : (List.take 1 (List.drop i cs))[0]? = some (.int k v) := by rw [h2]; rfl
    simpa using this
  obtain ⟨f, hf⟩ := Deep.choose_lt key
  refine ⟨(List.range n).map f, ?_, by simp, ?_⟩
  · apply List.ext_getElem?
    intro i
    rcases Nat.lt_or_ge i n with h1 | h1
    · rw [(hf i h1).1]; simp [nums, h1]
    · rw [List.getElem?_eq_none (by omega)]; simp [nums, h1]
  · intro x hx
    obtain ⟨i, hi, rfl⟩ := List.mem_map.1 hx
    exact (hf i (List.mem_range.1 hi)).2

theorem opens_struct3 {P : Program} {t : TypeId} {f0 f1 f2 : Field} {k0 k1 k2 : IntKind} (ht : P.underlying t = some (.struct #[f0, f1, f2])) (hC : P.cellsOf t = 3)
    (h0 : P.underlying f0.type = some (.int k0) ∧ f0.offset = 0 ∧ P.cellsOf f0.type = 1) (h1 : P.underlying f1.type = some (.int k1) ∧ f1.offset = 1 ∧ P.cellsOf f1.type = 1) (h2 : P.underlying f2.type = some (.int k2) ∧ f2.offset = 2 ∧ P.cellsOf f2.type = 1) :
    Opens P t (fun y : Int × Int × Int => [.int k0 y.1, .int k1 y.2.1, .int k2 y.2.2]) (fun y => (Lit.int k0 y.1).wf = true ∧ (Lit.int k1 y.2.1).wf = true ∧ (Lit.int k2 y.2.2).wf = true) := by
  intro H enc w base spare held fuel cs x h
  obtain ⟨xs, m, rfl, _, hl, hx, hi⟩ := DataW.trod_struct ht h
  rw [hC] at hl
  have hx3 : xs.length = 3 := by simpa using hx
  have g0 := hi 0 f0 rfl
  have g1 := hi 1 f1 rfl
  have g2 := hi 2 f2 rfl
  rw [h0.2.1, h0.2.2, List.getElem?_eq_getElem (by omega)] at g0
  rw [h1.2.1, h1.2.2, List.getElem?_eq_getElem (by omega)] at g1
  rw [h2.2.1, h2.2.2, List.getElem?_eq_getElem (by omega)] at g2
  obtain ⟨a, a1, _, a2⟩ := DataW.trod_int h0.1 g0
  obtain ⟨b, b1, _, b2⟩ := DataW.trod_int h1.1 g1
  obtain ⟨c, c1, _, c2⟩ := DataW.trod_int h2.1 g2
  refine ⟨(a, b, c), ?_, a2, b2, c2⟩
  match cs, hl with
  | [x0, x1, x2], _ =>
    simp at a1 b1 c1
    subst a1 b1 c1
    rfl

/-- A struct of a whole number and an array of such. -/
theorem opens_struct_arr {P : Program} {t e : TypeId} {f0 f1 : Field} {k0 k : IntKind} {n : Nat} (ht : P.underlying t = some (.struct #[f0, f1])) (hC : P.cellsOf t = n + 1)
    (h0 : P.underlying f0.type = some (.int k0) ∧ f0.offset = 0 ∧ P.cellsOf f0.type = 1) (h1 : P.underlying f1.type = some (.array n e) ∧ f1.offset = 1 ∧ P.cellsOf f1.type = n) (he : P.underlying e = some (.int k)) (hc : P.cellsOf e = 1) :
    Opens P t (fun y : Int × List Int => .int k0 y.1 :: nums k y.2) (fun y => (Lit.int k0 y.1).wf = true ∧ y.2.length = n ∧ ∀ x ∈ y.2, (Lit.int k x).wf = true) := by
  intro H enc w base spare held fuel cs x h
  obtain ⟨xs, m, rfl, _, hl, hx, hi⟩ := DataW.trod_struct ht h
  rw [hC] at hl
  have hx3 : xs.length = 2 := by simpa using hx
  have g0 := hi 0 f0 rfl
  have g1 := hi 1 f1 rfl
  rw [h0.2.1, h0.2.2, List.getElem?_eq_getElem (by omega)] at g0
  rw [h1.2.1, h1.2.2, List.getElem?_eq_getElem (by omega)] at g1
  obtain ⟨a, a1, _, a2⟩ := DataW.trod_int h0.1 g0
  obtain ⟨b, b1, b2⟩ := opens_arr h1.1 he hc h1.2.2 _ _ _ _ _ _ _ _ _ g1
  refine ⟨(a, b), ?_, a2, b2⟩
  match cs, hl with
  | x0 :: r, hr =>
    simp at a1 b1 hr
    rw [List.take_of_length_le (by omega)] at b1
    subst a1 b1
    rfl

/-- The same behind a value. -/
theorem opens_value {P : Program} {t : TypeId} {α : Type} {C : α → List Value} {G : α → Prop} (ho : Opens P t C G) {H : Type} {enc : TypeId × Value → H} {w : World} {base : Nat} {spare : Nat → Bool} {held : Bool} {v : Value} {d : DataW H} {p : List MemPlace}
    (h : DataW.Trod enc P w base spare held t v d p) : ∃ y, v.cells.toList = C y ∧ G y := by
  obtain ⟨fuel, hf⟩ := h
  exact ho _ _ _ _ _ _ _ _ _ hf
theorem okWide_agg {P : Program} {w : World} {r : Reach} {base : Nat} {t : TypeId} {v : Value} (ht : (∃ fs, P.underlying t = some (.struct fs)) ∨ ∃ n e, P.underlying t = some (.array n e)) (h : Value.okWide P w r base t v) : ∃ cs, v = .agg cs := by
  rcases ht with ⟨fs, ht⟩ | ⟨n, e, ht⟩
  · obtain ⟨cs, h, _⟩ := okWide_struct ht h
    exact ⟨cs, h⟩
  · simp only [Value.okWide, ht] at h
    obtain ⟨cs, h1, _⟩ := h
    exact ⟨cs, h1⟩
theorem opens_agg {P : Program} {t : TypeId} {α : Type} {C : α → List Value} {G : α → Prop} (ho : Opens P t C G) {H : Type} {enc : TypeId × Value → H} {w w' : World} {base b' : Nat} {spare : Nat → Bool} {held : Bool} {v : Value} {d : DataW H} {p : List MemPlace} {r : Reach}
    (ht : (∃ fs, P.underlying t = some (.struct fs)) ∨ ∃ n e, P.underlying t = some (.array n e)) (hk : Value.okWide P w' r b' t v)
    (h : DataW.Trod enc P w base spare held t v d p) : ∃ y, v = .agg (C y).toArray ∧ G y := by
  obtain ⟨cs, rfl⟩ := okWide_agg ht hk
  obtain ⟨y, h1, h2⟩ := opens_value ho h
  refine ⟨y, ?_, h2⟩
  simp only [Value.cells] at h1
  rw [← h1]

/-- A slice that is read: element i has the cells C x. -/
def Rds {α : Type} (w : World) (A : Option Addr) (n sz : Nat) (C : α → List Value) (xs : List α) : Prop :=
  xs.length = n ∧ n ≤ 140737488351232 ∧ (0 < n → ∃ ad, A = some ad ∧ ∀ i x, xs[i]? = some x → ∀ j v, (C x)[j]? = some v → w.cell? (ad.add (i * sz + j)) = some v)

theorem opens_slice {P : Program} {t e : TypeId} {α : Type} {C : α → List Value} {G : α → Prop} (ho : Opens P e C G) [Inhabited α] {H : Type} {enc : TypeId × Value → H} {w : World} {base : Nat} {v : Value} {d : DataW H} {p : List MemPlace} {sz by_ : Nat}
    (ht : P.underlying t = some (.slice e)) (hsz : P.cellsOf e = sz) (hby : P.bytesOf e = by_) (hb0 : 0 < by_) {w' : World} {r : Reach} {b' : Nat} (hk : Value.okWide P w' r b' t v)
    {ts : List TypeId} {ds : List (DataW H)} {j : Nat} (hw : (DataW.weightsEach P ts ds).all (· ≤ reachBytes) = true) (hts : ts[j]? = some t) (hds : ds[j]? = some d)
    (h : DataW.Trod enc P w base (fun _ => true) true t v d p) : ∃ A n c xs, v = .slice A n c ∧ n ≤ c ∧ Rds w A n sz C xs ∧ (∀ x ∈ xs, G x) ∧ n * by_ ≤ 140737488351232 := by
  obtain ⟨A, n, c, rfl⟩ := okWide_slice ht hk
  obtain ⟨fuel, hf⟩ := h
  rcases Deep.open_slice ht hf with ⟨h1, h2⟩ | ⟨a, len, cap, m, q, D, Pl, h1, h2, h3, h4, h5, h6, h7⟩
  · simp [Value.cells] at h1
    obtain ⟨rfl, rfl, rfl⟩ := h1
    exact ⟨none, 0, 0, [], rfl, Nat.le_refl _, ⟨rfl, by omega, fun h => absurd h (Nat.lt_irrefl _)⟩, by simp, by simp⟩
  · simp [Value.cells] at h1
    obtain ⟨rfl, rfl, rfl⟩ := h1
    simp only [Prod.mk.injEq] at h6
    obtain ⟨rfl, _⟩ := h6
    simp at h5
    subst h5
    have z := sized_slice hw hts hds ht
    simp only [List.length_map, List.length_range] at z
    rw [hby, show n + (m - n) = m by omega] at z
    have zz : m * by_ ≤ 140737488351232 := by have := reachBytes_lt; unfold reachBytes at z; omega
    have hnb : n * by_ ≤ 140737488351232 := Nat.le_trans (Nat.mul_le_mul_right _ h3) zz
    have hn : n ≤ 140737488351232 := Nat.le_trans (Nat.le_mul_of_pos_right _ hb0) hnb
    obtain ⟨f, hfx⟩ := Deep.choose_lt (n := n) (p := fun i x => w.cells? base (a.add (i * P.cellsOf e)) (P.cellsOf e) = some (C x) ∧ G x) (fun i hi => by
      obtain ⟨cs', g1, g2⟩ := h7 i (by omega)
      obtain ⟨y, g3, g4⟩ := ho _ _ _ _ _ _ _ _ _ g2
      exact ⟨y, by rw [g1, g3], g4⟩)
    refine ⟨some a, n, m, (List.range n).map f, rfl, h3, ⟨by simp, hn, fun _ => ⟨a, rfl, ?_⟩⟩, ?_, hnb⟩
    · intro i x hx j v hv
      have hi : i < n := by
        rcases Nat.lt_or_ge i n with h | h
        · exact h
        · simp [h] at hx
      simp [hi] at hx
      subst hx
      obtain ⟨_, hl, hg⟩ := World.cells?_some (hfx i hi).1
      have hj : j < P.cellsOf e := by rw [← hl]; exact (List.getElem?_eq_some_iff.1 hv).1
      have := hg j hj
      rw [hv, Deep.add_add, hsz] at this
      exact this
    · intro x hx
      obtain ⟨i, hi, rfl⟩ := List.mem_map.1 hx
      exact (hfx i (List.mem_range.1 hi)).2

theorem below_then {B : Nat} {w w1 w2 : World} (h : Below B w w1) (hB : B ≤ w1.heap.size) (k : Below w1.heap.size w1 w2) : Below B w w2 :=
  h.trans ⟨k.os, k.tape, k.output, k.size, fun i hi => k.block i (Nat.lt_of_lt_of_le hi hB)⟩

theorem bcell {B : Nat} {W w1 : World} (hb : Below B W w1) : (∀ b o, b < B → w1.cell? ⟨b, o, none⟩ = W.cell? ⟨b, o, none⟩) ∧ (∀ b o, b < B → w1.frozen? ⟨b, o, none⟩ = W.frozen? ⟨b, o, none⟩) :=
  ⟨fun b o h => hb.cell (p := ⟨b, o, none⟩) h, fun b o h => hb.frozen (p := ⟨b, o, none⟩) h⟩

/-! the frame of a law -/
theorem trodAll_below {H : Type} {enc : TypeId × Value → H} {P : Program} (hl : laidOutB P = true) {W W' : World} (hb : Below W.heap.size W W') :
    ∀ {ts : List TypeId} {vs : List Value} {ds : List (DataW H)} {ps : List MemPlace}, (∀ t ∈ ts, P.readableRec t = true ∧ t < P.types.size) → DataW.TrodAll enc P W 0 (fun _ => true) true ts vs ds ps → DataW.TrodAll enc P W' 0 (fun b => decide (b < W.heap.size)) true ts vs ds ps
  | [], [], [], _, _, h => h
  | [], _ :: _, _, _, _, h => h.elim
  | [], [], _ :: _, _, _, h => h.elim
  | _ :: _, [], _, _, _, h => h.elim
  | _ :: _, _ :: _, [], _, _, h => h.elim
  | t :: ts, v :: vs, d :: ds, _, hr, ⟨p, q, h1, h2, e⟩ =>
    ⟨p, q, Below.trod hl (hr t (by simp)).1 (hr t (by simp)).2 h1 hb (by obtain ⟨m, hm⟩ := h1; exact DataW.trod_lt m _ _ _ hm), trodAll_below hl hb (fun t ht => hr t (by simp [ht])) h2, e⟩

theorem law_lifted {C : Checked} {os : Os} {f : FuncId} {fn : Func} {s : ChangeSpec} {H : Type} {enc : TypeId × Value → H} {tb : TypeId}
    (own : ownKnob C.prog.godebug = none) (started : os.Started) (noInit : C.prog.inits.idxOf? f = none) (hfn : C.prog.funcs[f]? = some fn) (laid : laidOutB C.prog = true)
    (hv : s.vars = []) (hres : fn.resultTypes = #[tb]) (hb : C.prog.underlying tb = some .bool) (hread : ∀ t ∈ fn.params.toList, C.prog.readableRec t = true ∧ t < C.prog.types.size)
    (witness : ∃ (w : World) (tape : Tape) (i : Input), w.os = os ∧ (w.forCall tape i).Shaped C.prog ∧ i.vars = [] ∧ Input.okWide C.prog (w.forCall tape i) .any w.heap.size f i ∧
      s.pre6 enc C.prog fn [] false (w.forCall tape i).memory i.args ∧ (({} : Assume)).holds C.prog (lone (Frame.enter C.prog f i.args .normal) [] (w.forCall tape i)))
    (hspec : ∀ (ds : List (DataW H)) (W : World) (args : Array Value) (p : List MemPlace), DataW.TrodAll enc C.prog W 0 (fun _ => true) true fn.params.toList args.toList ds p → (s.fn H ds).results = [.lit (.bool true)] ∧ (s.fn H ds).args = ds ∧ (s.fn H ds).vars = [])
    (walk : ∀ (W : World) (base : Nat) (args : Array Value) (ds : List (DataW H)) (p : List MemPlace),
      (∀ (j : Nat) t v, fn.params[j]? = some t → args[j]? = some v → Value.okWide C.prog W .any base t v) →
      DataW.TrodAll enc C.prog W 0 (fun _ => true) true fn.params.toList args.toList ds p →
      (DataW.weightsEach C.prog fn.params.toList ds).all (· ≤ reachBytes) = true →
      Calls C.prog f args W fun e W' => e = .returned (.bool true) ∧ Below W.heap.size W W') :
    ReturnsInHanded {} C os f .any (s.pre6 enc C.prog fn [] false) (s.post enc C.prog fn false true false false) := by
  refine returnsInHanded_of_change_sized (C := C) own started noInit hfn witness ?_
  intro W base args ds gs before hval hW _ hsz _
  have hW' := hW
  obtain ⟨p, q, hA, hV, rfl, hfz, hnd⟩ := hW
  have hvt : s.plain.varTypes C.prog = [] := by simp [ChangeSpec.plain, DataSpec.varTypes, hv]
  rw [hv] at hV
  obtain ⟨rfl, rfl⟩ := trodVars_none hV
  simp only [List.append_nil, hvt] at hW' hsz
  refine (walk W base args ds p hval hA hsz).mono fun e W' ⟨he, bel⟩ => ?_
  subst he
  obtain ⟨hs1, hs2, hs3⟩ := hspec ds W args p hA
  refine ⟨_, rfl, ds, [], p, [], p, [], hW', ?_, ?_, ?_, bel.frame _, fun h => by cases h⟩
  · rw [List.append_nil, hs1, hres]
    exact trodAll_mk1 (shut_bool hb _)
  · rw [List.append_nil, hs2]
    exact trodAll_below laid bel hread hA
  · rw [List.append_nil, hv, hs3]
    rfl
end Go.Proofs.Ythpdfjfkokgkoaa
