/- Over any program: worlds in which all blocks stand but those of a set. -/
import Derived.Test.YtefipngapgffdaaGreatDoorK
namespace Go.Proofs.YtefipngapgffdaaGreatDoor
open Go.RowKit
set_option linter.unusedVariables false
set_option linter.unusedSimpArgs false
/-- All blocks that were there, but those of S, are as they were. -/
structure Keeps (S : Nat → Prop) (w w' : World) : Prop where
  os : w'.os = w.os
  tape : w'.tape = w.tape
  output : w'.output = w.output
  size : w.heap.size ≤ w'.heap.size
  block : ∀ k, k < w.heap.size → ¬ S k → w'.heap[k]? = w.heap[k]?
theorem Keeps.refl (S : Nat → Prop) (w : World) : Keeps S w w := ⟨rfl, rfl, rfl, Nat.le_refl _, fun _ _ _ => rfl⟩
theorem Keeps.trans {S : Nat → Prop} {w w1 w2 : World} (h : Keeps S w w1) (k : Keeps S w1 w2) : Keeps S w w2 :=
  ⟨k.os.trans h.os, k.tape.trans h.tape, k.output.trans h.output, Nat.le_trans h.size k.size, fun i hi hs => (k.block i (Nat.lt_of_lt_of_le hi h.size) hs).trans (h.block i hi hs)⟩
theorem Keeps.below {S : Nat → Prop} {w w' : World} (h : Below w.heap.size w w') : Keeps S w w' := ⟨h.os, h.tape, h.output, h.size, fun k hk _ => h.block k hk⟩
theorem Keeps.set {S : Nat → Prop} {w w' : World} (h : Keeps S w w') (b i : Nat) (v : Value) (hb : S b) : Keeps S w (w'.setCell ⟨b, i, none⟩ v) :=
  ⟨h.os, h.tape, h.output, by simpa [World.setCell] using h.size, fun k hk hs => by
    rw [heap_setCell_other _ _ _ _ (by intro e; exact hs (by rw [e]; exact hb))]; exact h.block k hk hs⟩
theorem Keeps.row {S : Nat → Prop} {w w' : World} {b : Nat} {E : TypeId} {L : List Value} (h : Keeps S w w') (r : Row w b E L) (hs : ¬ S b) : Row w' b E L := (h.block b r.lt hs).trans r
theorem Keeps.mono {S T : Nat → Prop} {w w' : World} (h : Keeps S w w') (hST : ∀ k, S k → T k) : Keeps T w w' := ⟨h.os, h.tape, h.output, h.size, fun k hk hs => h.block k hk (fun e => hs (hST k e))⟩
theorem Keeps.rds {S : Nat → Prop} {α : Type} {w w' : World} {A : Option Addr} {n sz : Nat} {C : α → List Value} {xs : List α} (h : Keeps S w w') (R : Rds w A n sz C xs) (hs : ∀ ad, A = some ad → ¬ S ad.block) : Rds w' A n sz C xs := by
  refine ⟨R.1, R.2.1, fun h0 => ?_⟩
  obtain ⟨ad, ha, hc⟩ := R.2.2 h0
  refine ⟨ad, ha, fun k x hx j v hv => ?_⟩
  have h1 := hc k x hx j v hv
  have h2 := World.block_lt_of_cell? _ _ h1
  have hb : (ad.add (k * sz + j)).block = ad.block := by unfold Addr.add; split <;> rfl
  rw [World.cell?_of_block (w := w) (h.block _ h2 (by rw [hb]; exact hs ad ha))]
  exact h1
theorem Keeps.own {S : Nat → Prop} {w w' : World} {b : Nat} {e : TypeId} {s n : Nat} {v : Value} {xs : List Value} (h : Keeps S w w') (O : w.ownsRow b e s v n xs) (hs : ∀ k, b ≤ k → ¬ S k) : w'.ownsRow b e s v n xs := by
  refine ⟨O.1, ?_⟩
  rcases O.2 with h0 | ⟨g, cap, cur, h1, h2, h3, h4⟩
  · exact .inl h0
  · exact .inr ⟨g, cap, cur, h1, h2, (h.block g (Array.getElem?_eq_some_iff.1 h3).1 (hs g h2)).trans h3, h4⟩
theorem Keeps.grown {w w' : World} {r : Option Nat} (h : w.grownBy w' r) : Keeps (fun b => r = some b) w w' := ⟨h.os, h.tape, h.output, h.size, fun k hk hs => h.block k hk (fun e => hs e.symm)⟩
theorem Keeps.alloc {S : Nat → Prop} {w w' : World} (h : Keeps S w w') (o : Obj) : Keeps S w (w'.alloc o) := h.trans (Keeps.below (below_alloc1 w' o))
theorem Keeps.own1 {S : Nat → Prop} {w w' : World} {b : Nat} {e : TypeId} {s n : Nat} {v : Value} {xs : List Value} (h : Keeps S w w') (O : w.ownsRow b e s v n xs) (hs : ∀ k, v.ownBlock = some k → ¬ S k) : w'.ownsRow b e s v n xs := by
  refine ⟨O.1, ?_⟩
  rcases O.2 with h0 | ⟨g, cap, cur, h1, h2, h3, h4⟩
  · exact .inl h0
  · exact .inr ⟨g, cap, cur, h1, h2, (h.block g (Array.getElem?_eq_some_iff.1 h3).1 (hs g (by rw [h1]; rfl))).trans h3, h4⟩
/-- What stands but for blocks that are new. -/
theorem Keeps.toBelow {S : Nat → Prop} {w w' : World} {B : Nat} (h : Keeps S w w') (hS : ∀ k, k < B → ¬ S k) (hB : B ≤ w.heap.size) : Below B w w' := ⟨h.os, h.tape, h.output, h.size, fun k hk => h.block k (Nat.lt_of_lt_of_le hk hB) (hS k hk)⟩
theorem Keeps.ofBelow {w w' : World} {B : Nat} (h : Below B w w') : Keeps (fun b => B ≤ b) w w' := ⟨h.os, h.tape, h.output, h.size, fun k hk hs => h.block k (by omega)⟩
theorem Keeps.thenB {S : Nat → Prop} {w w1 w2 : World} {B : Nat} (h : Keeps S w w1) (k : Below B w1 w2) (hB : w.heap.size ≤ B) : Keeps S w w2 :=
  ⟨k.os.trans h.os, k.tape.trans h.tape, k.output.trans h.output, Nat.le_trans h.size k.size, fun i hi hs => (k.block i (by omega)).trans (h.block i hi hs)⟩
end Go.Proofs.YtefipngapgffdaaGreatDoor
