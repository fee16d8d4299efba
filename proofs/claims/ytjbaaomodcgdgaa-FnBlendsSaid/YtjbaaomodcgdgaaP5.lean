/- NearestBlend: the program's side: splits. -/
import Derived.Test.YtjbaaomodcgdgaaP4
import Derived.Laws.EntriesVeiled
namespace Go.Proofs.Ytjbaaomodcgdgaa
open Go.RowKit
set_option linter.unusedVariables false
set_option linter.unusedSimpArgs false
set_option maxRecDepth 100000 in
set_option maxHeartbeats 4000000 in
theorem splits_any (A : Option Addr) (n c : Nat) (xs : List (Int × List Int)) (W : List Int) (M G : Int) (P : Nat) (bL bY bA bW bP bB bE : Nat) (w : World) (H : Hid (NbOk xs M G (P : Int) W)) (hn : 1 ≤ n) (h6 : n ≤ 6) (hP : P ≤ 8) (hC : Hid (NbCst A n c xs W M G (P : Int) bL bY bA bW bP w)) (hS : Hid (StI bB bE 0 none w))
    (hne : bB ≠ bE) (hd : Hid ((∀ b, (b = bL ∨ b = bY ∨ b = bA ∨ b = bW ∨ b = bP) → ¬ (b = bB ∨ b = bE)) ∧ ∀ ad, A = some ad → ¬ (ad.block = bB ∨ ad.block = bE) ∧ ad.block < w.heap.size)) :
    Calls Try.prog 41 #[.int .i64 (n : Int), .int .i64 (P : Int), .func (.func 42) #[] #[.pointer (some ⟨bL, 0, none⟩), .pointer (some ⟨bY, 0, none⟩), .pointer (some ⟨bA, 0, none⟩), .pointer (some ⟨bW, 0, none⟩), .pointer (some ⟨bP, 0, none⟩), .pointer (some ⟨bB, 0, none⟩), .pointer (some ⟨bE, 0, none⟩)]] w fun e w' => e = .returned (.tuple #[]) ∧ StI bB bE w.heap.size (nbF (fun ps => offT xs ps M G (P : Int) W 8) (n - 1) [] P none) w' ∧ Keeps (fun b => b = bB ∨ b = bE) w w' := by
  have hk2 : ∀ args w, (callFunc 74 args).run Try.prog w = .ok (.enter 74 args) w := enters_of Try.func74 rfl (by decide)
  have hmk := run_make_n (P := Try.prog) 37 2 (z := .int .i64 0) (sz := 1) (by_ := 8) Try.underlying37 (by kernel_rfl) n (by omega) (by omega)
  rw [Nat.mul_one, madeCells_int] at hmk
  obtain ⟨Z, hZ⟩ : ∃ Z : Array Value, (nums .i64 (List.replicate n 0)).toArray = Z := ⟨_, rfl⟩
  rw [hZ] at hmk
  obtain ⟨W1, hW1⟩ : ∃ x, x = w.alloc (.cells #[.int .i64 (n : Int)] 3) := ⟨_, rfl⟩
  obtain ⟨W2, hW2⟩ : ∃ x, x = W1.alloc (.cells #[.func (.func 42) #[] #[.pointer (some ⟨bL, 0, none⟩), .pointer (some ⟨bY, 0, none⟩), .pointer (some ⟨bA, 0, none⟩), .pointer (some ⟨bW, 0, none⟩), .pointer (some ⟨bP, 0, none⟩), .pointer (some ⟨bB, 0, none⟩), .pointer (some ⟨bE, 0, none⟩)]] 74) := ⟨_, rfl⟩
  obtain ⟨W3, hW3⟩ : ∃ x, x = W2.alloc (.cells Z 2) := ⟨_, rfl⟩
  obtain ⟨W4, hW4⟩ : ∃ x, x = W3.alloc (.cells #[.slice (some ⟨w.heap.size + 1 + 1, 0, none⟩) n n] 37) := ⟨_, rfl⟩
  obtain ⟨W5, hW5⟩ : ∃ x, x = W4.alloc (.cells #[.func (.func 74) #[] #[.pointer (some ⟨w.heap.size, 0, none⟩), .pointer (some ⟨w.heap.size + 1 + 1 + 1, 0, none⟩), .pointer (some ⟨w.heap.size + 1, 0, none⟩), .pointer (some ⟨w.heap.size + 1 + 1 + 1 + 1, 0, none⟩)]] 93) := ⟨_, rfl⟩
  have s1 : W1.heap.size = w.heap.size + 1 := by rw [hW1, World.size_alloc]
  have s2 : W2.heap.size = w.heap.size + 1 + 1 := by rw [hW2, World.size_alloc, s1]
  have s3 : W3.heap.size = w.heap.size + 1 + 1 + 1 := by rw [hW3, World.size_alloc, s2]
  have s4 : W4.heap.size = w.heap.size + 1 + 1 + 1 + 1 := by rw [hW4, World.size_alloc, s3]
  have s5 : W5.heap.size = w.heap.size + 1 + 1 + 1 + 1 + 1 := by rw [hW5, World.size_alloc, s4]
  have b1 : Below w.heap.size w W1 := by rw [hW1]; exact below_alloc1 _ _
  have b2 : Below W1.heap.size W1 W2 := by rw [hW2]; exact below_alloc1 _ _
  have b3 : Below W2.heap.size W2 W3 := by rw [hW3]; exact below_alloc1 _ _
  have b4 : Below W3.heap.size W3 W4 := by rw [hW4]; exact below_alloc1 _ _
  have b5 : Below W4.heap.size W4 W5 := by rw [hW5]; exact below_alloc1 _ _
  have r1 : Row W1 w.heap.size 3 [.int .i64 (n : Int)] := by rw [hW1]; exact Row.alloc w [.int .i64 (n : Int)] 3
  have r2 : Row W2 (w.heap.size + 1) 74 [.func (.func 42) #[] #[.pointer (some ⟨bL, 0, none⟩), .pointer (some ⟨bY, 0, none⟩), .pointer (some ⟨bA, 0, none⟩), .pointer (some ⟨bW, 0, none⟩), .pointer (some ⟨bP, 0, none⟩), .pointer (some ⟨bB, 0, none⟩), .pointer (some ⟨bE, 0, none⟩)]] := by rw [← s1, hW2]; exact Row.alloc W1 [_] 74
  have r3 : Row W3 (w.heap.size + 1 + 1) 2 (nums .i64 (List.replicate n 0)) := by rw [← s2, hW3, ← hZ]; exact Row.alloc W2 (nums .i64 (List.replicate n 0)) 2
  have r4 : Row W4 (w.heap.size + 1 + 1 + 1) 37 [.slice (some ⟨w.heap.size + 1 + 1, 0, none⟩) n n] := by rw [← s3, hW4]; exact Row.alloc W3 [_] 37
  have r5 : Row W5 (w.heap.size + 1 + 1 + 1 + 1) 93 [.func (.func 74) #[] #[.pointer (some ⟨w.heap.size, 0, none⟩), .pointer (some ⟨w.heap.size + 1 + 1 + 1, 0, none⟩), .pointer (some ⟨w.heap.size + 1, 0, none⟩), .pointer (some ⟨w.heap.size + 1 + 1 + 1 + 1, 0, none⟩)]] := by
    have h := Row.alloc W4 [.func (.func 74) #[] #[.pointer (some ⟨w.heap.size, 0, none⟩), .pointer (some ⟨w.heap.size + 1 + 1 + 1, 0, none⟩), .pointer (some ⟨w.heap.size + 1, 0, none⟩), .pointer (some ⟨w.heap.size + 1 + 1 + 1 + 1, 0, none⟩)]] 93
    rw [s4] at h
    rw [hW5]
    exact h
  have hB := below_then (below_then (below_then (below_then b1 b1.size b2) (by omega) b3) (by omega) b4) (by omega) b5
  have hC5 := hC.out
  obtain ⟨c1, c2, c3, c4, c5, c6⟩ := hC.out
  obtain ⟨e1, e2⟩ := hS.out
  have l1 := e1.lt; have l2 := e2.lt
  have m1 := c1.lt; have m2 := c2.lt; have m3 := c3.lt; have m4 := c4.lt; have m5 := c5.lt
  have hfi := fill_any A n c xs W M G (P : Int) bL bY bA bW bP bB bE W5.heap.size (w.heap.size + 1 + 1) w.heap.size (w.heap.size + 1 + 1 + 1) (w.heap.size + 1) (w.heap.size + 1 + 1 + 1 + 1) 74 93 H hn h6
    (Lib.hid ⟨⟨hne, by omega, by omega, by omega, by omega, by omega⟩, by
      intro b hb
      rcases hb with hb | hb | hb | hb | hb | hb | hb | hb | hb
      · have := hd.out.1 b (by simp [hb]); omega
      · have := hd.out.1 b (by simp [hb]); omega
      · have := hd.out.1 b (by simp [hb]); omega
      · have := hd.out.1 b (by simp [hb]); omega
      · have := hd.out.1 b (by simp [hb]); omega
      · omega
      · omega
      · omega
      · omega, by
      intro ad had
      have h1 := (hd.out.2 ad had).1
      have h2 := (hd.out.2 ad had).2
      omega⟩)
    (n - 1) [] P 0 0 (P : Int) none W5 rfl (by omega) rfl rfl hP (by simp) ⟨c1.below hB, c2.below hB, c3.below hB, c4.below hB, c5.below hB, c6.below hB⟩
    ⟨(((r1.below b2).below b3).below b4).below b5, r4.below b5, ((r2.below b3).below b4).below b5, r5⟩
    ⟨List.replicate n 0, by simp, rfl, (r3.below b4).below b5, ⟨e1.below hB, e2.below hB⟩, Nat.le_refl _⟩
  have HFI := Lib.hid hfi
  have HBB := Lib.hid hB
  have H1 := Lib.hid hW1; have H2 := Lib.hid hW2; have H3 := Lib.hid hW3; have H4 := Lib.hid hW4; have H5 := Lib.hid hW5; have S5 := Lib.hid s5
  clear hfi hB r1 r2 r3 r4 r5 b1 b2 b3 b4 b5 c1 c2 c3 c4 c5 c6 e1 e2 hC5 hW1 hW2 hW3 hW4 hW5 s1 s2 s3 s4 s5 m1 m2 m3 m4 m5
  go_enter Try.func41, Try.ntmps41
  go_wp2_with fail
  rw [← H1.out, ← H2.out, ← H3.out, ← H4.out, ← H5.out]
  refine HFI.out.mono ?_
  rintro e w6 ⟨rfl, hI, hk⟩
  go_wp2_with fail
  first | (first | ((try simp only [Exit.inBlock, Exit.then]); refine bodyPost_end (results_none rfl _ _ _) rfl ?_) | ((try simp only [Exit.inBlock, Exit.then]); refine bodyPost_ret (results_none rfl _ _ _) rfl ?_))
  obtain ⟨qs, _, _, _, hst, _⟩ := hI
  refine ⟨rfl, ?_, ?_⟩
  · generalize nbF (fun ps => offT xs ps M G (P : Int) W 8) (n - 1) [] P none = st at hst
    cases st with
    | none => exact hst
    | some q =>
      obtain ⟨ps, l⟩ := q
      obtain ⟨ad, cb, q1, q2, O⟩ := hst
      exact ⟨ad, cb, q1, q2, own_lower O (by rw [S5.out]; omega)⟩
  · refine ⟨hk.os.trans HBB.out.os, hk.tape.trans HBB.out.tape, hk.output.trans HBB.out.output, Nat.le_trans HBB.out.size hk.size, fun k hk1 hk2_ => ?_⟩
    rw [hk.block k (by have := S5.out; omega) (by rintro (h | h | h); exact hk2_ (.inl h); exact hk2_ (.inr h); omega), HBB.out.block k hk1]
end Go.Proofs.Ytjbaaomodcgdgaa
