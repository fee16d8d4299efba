/- Over any program: a range over a function whose iterator keeps its state in a variable of its own (block bs, made ahead of the loop). -/
import Derived.Test.YtbkhlcbnnjgdpaaGreatDoorBa
import Derived.RangeFuncFrom
namespace Go.Proofs.YtbkhlcbnnjgdpaaGreatDoor
open Go.RowKit
set_option linter.unusedVariables false
/-- Who abides the iterator's steps: new blocks, and a turn of its own variable. -/
def OnVar {β : Type} (bs : Nat) (J : β → World → Prop) : Prop := ∀ s A B, J s A → A.grownBy B (some bs) → J s B
/-- What the caller says between two rounds: it abides the iterator's steps, and a turn of a block that is no cells and lies at or beyond B. -/
def OnVarFrom {β : Type} (bs B : Nat) (I : β → World → Prop) : Prop :=
  OnVar bs I ∧ ∀ s W l o (o' : Obj), I s W → B ≤ l → W.heap[l]? = some o → o.isCells = false → I s (W.putObj l o')
theorem grown_new (W : World) (o : Obj) (row : Option Nat) : W.grownBy (W.alloc o) row := World.grownBy_alloc W o row
/-- The contract of such an iterator: it hands the rounds a list's elements, in order; S: all have come; Sp: a part has come. -/
def SeqVar {α : Type} (F : Fence) (n : Nat) (P : Program) (g : Nat) (lb : Array Value) (encs : α → Array Value) (S Sp : List α → Prop) (bs : Nat) (w : World) : Prop :=
  ∀ (l : Nat) (J Jx : List α → World → Prop) (W : World), W.heap[bs]? = w.heap[bs]? → OnVar bs J → OnVar bs Jx →
    (∀ pre x A, J pre A → Sp (pre ++ [x]) → YieldAt F (n - 1) P l (encs x) A fun e B =>
      (e = .returned (.bool true) ∧ J (pre ++ [x]) B ∧ B.heap[bs]? = A.heap[bs]?) ∨ (e = .returned (.bool false) ∧ Jx (pre ++ [x]) B)) →
    J [] W →
    CallsIn F n P g (#[.func (.yield l) #[] #[]] ++ lb) W fun e B => (∃ v, e = .returned v) ∧ ((∃ xs, S xs ∧ J xs B) ∨ (∃ pre, Sp pre ∧ Jx pre B))
/-- How a round's body may be left. -/
def roundVar {α : Type} (bs : Nat) (I : List α → World → Prop) (Ix : Code → List α → World → Prop) (xs : List α) (W : World) : Exit → Act → World → Prop
  | .normal, _, B => KeepsOthers W B ∧ B.heap[bs]? = W.heap[bs]? ∧ I xs B
  | .ret, _, B => KeepsOthers W B ∧ Ix .ret xs B
  | .exit id, _, B => KeepsOthers W B ∧ Ix (.exit id) xs B
  | .goto t, _, B => KeepsOthers W B ∧ Ix (.goto t) xs B
  | .panic _, _, _ => False
  | .outgrown, _, _ => False
variable {F : Fence} {n : Nat} {P : Program}
theorem rangeVar {α : Type} {g : Operand} {ps : Array Tmp} {assign body : Code} {Q : Exit → Act → World → Prop} {a : Act} {w : World}
    (hro : F.round = none) (h1 : 1 ≤ n) {gf : Nat} {lb : Array Value} (hg : a.eval g = .func (.func gf) #[] lb) (hFg : F.fn gf) (eg : ∀ args w, (callFunc gf args).run P w = .ok (.enter gf args) w)
    {encs : α → Array Value} {S Sp : List α → Prop} {bs : Nat} (hbs : bs < w.heap.size) (hseq : SeqVar F (n - 1) P gf lb encs S Sp bs w) (hps : ∀ x, (encs x).size = ps.size)
    (I : List α → World → Prop) (Ix : Code → List α → World → Prop) (hI : OnVarFrom bs w.heap.size I) (hIx : ∀ c, OnVarFrom bs w.heap.size (Ix c)) (h0 : I [] w) (a₁ : α → Act)
    (hassign : ∀ (l : Nat) (x : α) (W : World) (K : Act → World → Prop), K (a₁ x) W →
      assign.wpIn (F.inRound l) (n - 1 - 1) P (Exit.then K (fun _ _ _ => False)) { tmps := (ps.zip (encs x)).foldl (fun t (p, v) => t.setIfInBounds p v) a.tmps, defers := [] } W)
    (hbody : ∀ (l : Nat) (pre : List α) (x : α) (W : World), I pre W → Sp (pre ++ [x]) → body.wpIn (F.inRound l) (n - 1 - 1) P (roundVar bs I Ix (pre ++ [x]) W) (a₁ x) W)
    (hdone : ∀ (D : Nat) (xs : List α) (W : World), w.heap.size ≤ D → S xs → I xs W → W.heap[D]? = some (.deferred (some [])) → Q .normal { a with defers := { target := .collected D, args := #[] } :: a.defers } W)
    (hstop : ∀ (D : Nat) (c : Code) (pre : List α) (W : World), w.heap.size ≤ D → Sp pre → Ix c pre W → W.heap[D]? = some (.deferred (some [])) → c.wpIn F n P Q { a with defers := { target := .collected D, args := #[] } :: a.defers } W) :
    (Code.rangeFunc g ps assign body).wpIn F n P Q a w := by
  refine wpIn_rangeFunc fun fn hfn => ?_
  rw [hro]
  obtain ⟨D, hD⟩ : ∃ D, D = w.heap.size := ⟨_, rfl⟩
  obtain ⟨R, hR⟩ : ∃ R : LoopState → Option Code → Loop, R = fun st pe => { state := st, pending := pe, fn, tmps := a.tmps, params := ps, assign, body, defers := D } := ⟨_, rfl⟩
  obtain ⟨V, hV⟩ : ∃ V, (w.alloc (.deferred (some []))).alloc (.loop (R .ready none)) = V := ⟨_, rfl⟩
  have kL : V.heap[D + 1]? = some (.loop (R .ready none)) := by
    have := World.alloc_heap_new (w.alloc (.deferred (some []))) (.loop (R .ready none))
    rw [← hV, hD, ← World.size_alloc w (.deferred (some []))]
    exact this
  have kD : V.heap[D]? = some (.deferred (some [])) := by
    rw [← hV, hD, Below.heap_alloc _ _ _ (by simp)]
    exact World.alloc_heap_new w _
  have kB : V.heap[bs]? = w.heap[bs]? := by rw [← hV, Below.heap_alloc _ _ _ (by simp; omega), Below.heap_alloc _ _ _ hbs]
  have kI : I [] V := by
    rw [← hV]
    exact hI.1 _ _ _ (hI.1 _ _ _ h0 (grown_new _ _ _)) (grown_new _ _ _)
  -- a step of the iterator leaves the loop's record and the block of the deferred calls
  have away : ∀ {A B : World} {k : Nat} {o : Obj}, D ≤ k → A.grownBy B (some bs) → A.heap[k]? = some o → B.heap[k]? = some o := fun hk hg h =>
    (hg.block _ (Array.getElem?_eq_some_iff.1 h).1 (fun e => by injection e; omega)).trans h
  refine ⟨D + 1, [{ target := .collected D, args := #[] }], V, { target := .fn (.func gf) lb, args := #[.func (.yield (D + 1)) #[] #[]] }, V, gf, #[.func (.yield (D + 1)) #[] #[]] ++ lb, V, ?_, ?_, ?_, ?_, fun _ => h1, ?_⟩
  · rw [← hV, hR, hD]
    exact run_enterLoop_outer _ _ _ _ _
  · simp only [resolve, hg]
    simp [go_sem]
  · intro f' hf'
    simp [Target.leads] at hf'
    subst hf'
    exact hFg
  · simp [invoke, go_sem, eg]
  · refine (hseq (D + 1)
      (fun pre W => I pre W ∧ W.heap[D + 1]? = some (.loop (R .ready none)) ∧ W.heap[D]? = some (.deferred (some [])))
      (fun pre W => ∃ c, Ix c pre W ∧ W.heap[D + 1]? = some (.loop (R .done (some c))) ∧ W.heap[D]? = some (.deferred (some [])))
      V kB
      (fun s A B h hg => ⟨hI.1 _ _ _ h.1 hg, away (by omega) hg h.2.1, away (Nat.le_refl _) hg h.2.2⟩)
      (fun s A B ⟨c, h, h2, h3⟩ hg => ⟨c, (hIx c).1 _ _ _ h hg, away (by omega) hg h2, away (Nat.le_refl _) hg h3⟩)
      ?_ ⟨kI, kL, kD⟩).mono ?_
    · rintro pre x W ⟨hi, hl, hk⟩ hlen
      have hlt : D + 1 < W.heap.size := (Array.getElem?_eq_some_iff.1 hl).1
      have hy := run_yield (P := P) (args := encs x) hl (by rw [hR]; exact hps x)
      rw [hR] at hy
      refine ⟨fn, _, assign, body, hy, roundIn_of_wpIn hfn (hassign _ x W _ ⟨_, run_beginRound hl (by rw [hR]), ?_⟩)⟩
      have qB : (W.putObj (D + 1) (.loop { R .ready none with state := .busy })).heap[bs]? = W.heap[bs]? := World.putObj_heap_other (by omega)
      have qL : (W.putObj (D + 1) (.loop { R .ready none with state := .busy })).heap[D + 1]? = some (.loop { R .ready none with state := .busy }) := World.putObj_heap_same hlt
      have qD : (W.putObj (D + 1) (.loop { R .ready none with state := .busy })).heap[D]? = some (.deferred (some [])) := (World.putObj_heap_other (by omega)).trans hk
      refine wpIn_mono (hbody _ pre x _ (hI.2 _ _ _ _ _ hi (by omega) hl rfl) hlen) ?_
      obtain ⟨X, hX⟩ : ∃ X, W.putObj (D + 1) (.loop { R .ready none with state := .busy }) = X := ⟨_, rfl⟩
      rw [hX] at qB qL qD ⊢
      have fin : ∀ (jump : Option Code) (Y : World), KeepsOthers X Y →
          Y.heap[D + 1]? = some (.loop { R .ready none with state := .busy }) ∧
          (Instr.endRound (D + 1) jump).run P Y = .ok (.bool jump.isNone) (Y.putObj (D + 1) (.loop (R (if jump.isNone then .ready else .done) jump))) ∧
          (Y.putObj (D + 1) (.loop (R (if jump.isNone then .ready else .done) jump))).heap[D + 1]? = some (.loop (R (if jump.isNone then .ready else .done) jump)) ∧
          (Y.putObj (D + 1) (.loop (R (if jump.isNone then .ready else .done) jump))).heap[D]? = some (.deferred (some [])) := fun jump Y hY => by
        have h3 := hY.same _ _ qL rfl
        have h4 := run_endRound (P := P) jump h3
        rw [hR] at h3 h4 ⊢
        exact ⟨h3, h4, World.putObj_heap_same (Array.getElem?_eq_some_iff.1 h3).1, (World.putObj_heap_other (by omega)).trans (hY.same _ _ qD rfl)⟩
      rintro e b Y hp
      cases e with
      | normal =>
        obtain ⟨h3, h4, h5⟩ := hp
        obtain ⟨f1, f2, f3, f4⟩ := fin none Y h3
        exact ⟨_, _, f2, .inl ⟨rfl, ⟨hI.2 _ _ _ _ _ h5 (by omega) f1 rfl, f3, f4⟩, (World.putObj_heap_other (by omega)).trans (h4.trans qB)⟩⟩
      | ret =>
        obtain ⟨f1, f2, f3, f4⟩ := fin (some .ret) Y hp.1
        exact ⟨_, _, f2, .inr ⟨rfl, .ret, (hIx _).2 _ _ _ _ _ hp.2 (by omega) f1 rfl, f3, f4⟩⟩
      | exit id =>
        obtain ⟨f1, f2, f3, f4⟩ := fin (some (.exit id)) Y hp.1
        exact ⟨_, _, f2, .inr ⟨rfl, .exit id, (hIx _).2 _ _ _ _ _ hp.2 (by omega) f1 rfl, f3, f4⟩⟩
      | goto t =>
        obtain ⟨f1, f2, f3, f4⟩ := fin (some (.goto t)) Y hp.1
        exact ⟨_, _, f2, .inr ⟨rfl, .goto t, (hIx _).2 _ _ _ _ _ hp.2 (by omega) f1 rfl, f3, f4⟩⟩
      | panic ch => exact hp.elim
      | outgrown => exact hp.elim
    · rintro e Y ⟨⟨v, rfl⟩, (⟨xs, hS, hi, hl, hk⟩ | ⟨pre, hSp, c, hi, hl, hk⟩)⟩
      · have h4 := run_endLoop (P := P) hl (by rw [hR]; simp)
        rw [hR] at h4
        exact ⟨none, _, h4, hdone D xs _ (by omega) hS (hI.2 _ _ _ _ _ hi (by omega) hl rfl) ((World.putObj_heap_other (by omega)).trans hk)⟩
      · have h4 := run_endLoop (P := P) hl (by rw [hR]; simp)
        rw [hR] at h4
        exact ⟨some c, _, h4, hstop D c pre _ (by omega) hSp ((hIx c).2 _ _ _ _ _ hi (by omega) hl rfl) ((World.putObj_heap_other (by omega)).trans hk)⟩
end Go.Proofs.YtbkhlcbnnjgdpaaGreatDoor
