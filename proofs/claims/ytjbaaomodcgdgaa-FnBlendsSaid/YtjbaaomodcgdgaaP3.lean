/- NearestBlend: the program's side: what is done with each choice of parts. -/
import Derived.Test.YtjbaaomodcgdgaaP2
import Derived.Test.YtjbaaomodcgdgaaC7
namespace Go.Proofs.Ytjbaaomodcgdgaa
open Go.RowKit
set_option linter.unusedVariables false
set_option linter.unusedSimpArgs false
/-- All blocks that were there, but those of S, are as they were. -/
structure Keeps (S : Nat → Prop) (w w' : World) : Prop where
  os : w'.os = w.os
  tape : w'.tape = w.tape
  output : w'.output = w.output
  size : w.heap.size ≤ w'.heap.size
  block : ∀ k, k < w.heap.size → ¬ S k → w'.heap[k]? = w.heap[k]?
theorem Keeps.refl (S : Nat → Prop) (w : World) : Keeps S w w := ⟨rfl, rfl, rfl, Nat.le_refl _, fun _ _ _ => rfl⟩
theorem Keeps.trans {S : Nat → Prop} {w w1 w2 : World} (h : Keeps S w w1) (k : Keeps S w1 w2) : Keeps S w w2 :=
  ⟨k.os.trans h.os, k.tape.trans h.tape, k.output.trans h.output, Nat.le_trans h.size k.size, fun i hi hs => (k.block i (Nat.lt_of_lt_of_le hi h.size) hs).trans (h.block i hi hs)⟩
theorem Keeps.below {S : Nat → Prop} {w w' : World} (h : Below w.heap.size w w') : Keeps S w w' := ⟨h.os, h.tape, h.output, h.size, fun k hk _ => h.block k hk⟩
theorem Keeps.set {S : Nat → Prop} {w w' : World} (h : Keeps S w w') (b i : Nat) (v : Value) (hb : S b) : Keeps S w (w'.setCell ⟨b, i, none⟩ v) :=
  ⟨h.os, h.tape, h.output, by simpa [World.setCell] using h.size, fun k hk hs => by
    rw [heap_setCell_other _ _ _ _ (by intro e; exact hs (by rw [e]; exact hb))]; exact h.block k hk hs⟩
theorem Keeps.row {S : Nat → Prop} {w w' : World} {b : Nat} {E : TypeId} {L : List Value} (h : Keeps S w w') (r : Row w b E L) (hs : ¬ S b) : Row w' b E L := (h.block b r.lt hs).trans r
theorem Keeps.mono {S T : Nat → Prop} {w w' : World} (h : Keeps S w w') (hST : ∀ k, S k → T k) : Keeps T w w' := ⟨h.os, h.tape, h.output, h.size, fun k hk hs => h.block k hk (fun e => hs (hST k e))⟩
theorem Keeps.rds {S : Nat → Prop} {α : Type} {w w' : World} {A : Option Addr} {n sz : Nat} {C : α → List Value} {xs : List α} (h : Keeps S w w') (R : Rds w A n sz C xs) (hs : ∀ ad, A = some ad → ¬ S ad.block) : Rds w' A n sz C xs := by
  refine ⟨R.1, R.2.1, fun h0 => ?_⟩
  obtain ⟨ad, ha, hc⟩ := R.2.2 h0
  refine ⟨ad, ha, fun k x hx j v hv => ?_⟩
  have h1 := hc k x hx j v hv
  have h2 := World.block_lt_of_cell? _ _ h1
  have hb : (ad.add (k * sz + j)).block = ad.block := by unfold Addr.add; split <;> rfl
  rw [World.cell?_of_block (w := w) (h.block _ h2 (by rw [hb]; exact hs ad ha))]
  exact h1
theorem Keeps.own {S : Nat → Prop} {w w' : World} {b : Nat} {e : TypeId} {s n : Nat} {v : Value} {xs : List Value} (h : Keeps S w w') (O : w.ownsRow b e s v n xs) (hs : ∀ k, b ≤ k → ¬ S k) : w'.ownsRow b e s v n xs := by
  refine ⟨O.1, ?_⟩
  rcases O.2 with h0 | ⟨g, cap, cur, h1, h2, h3, h4⟩
  · exact .inl h0
  · exact .inr ⟨g, cap, cur, h1, h2, (h.block g (Array.getElem?_eq_some_iff.1 h3).1 (hs g h2)).trans h3, h4⟩
/-- What stays: the list, the multiple, the grams, the wanted heap, the number of parts. -/
def NbCst (A : Option Addr) (n c : Nat) (xs : List (Int × List Int)) (W : List Int) (M G P : Int) (bL bY bA bW bP : Nat) (w : World) : Prop :=
  Row w bL 24 [.slice A n c] ∧ Row w bY 2 [.int .i64 M] ∧ Row w bA 2 [.int .i64 G] ∧ Row w bW 27 (nums .i32 W) ∧ Row w bP 2 [.int .i64 P] ∧ Rds w A n 9 FlC xs
/-- The best choice so far. -/
def StI (bB bE base : Nat) (st : Sta) (w : World) : Prop := match st with
  | none => Row w bB 37 [.slice none 0 0] ∧ Row w bE 2 [.int .i64 0]
  | some (ps, l) => ∃ ad cb, Row w bB 37 [.slice (some ad) ps.length cb] ∧ Row w bE 2 [.int .i64 l] ∧ w.ownsRow base 2 1 (.slice (some ad) ps.length cb) ps.length (nums .i64 ps)
set_option maxRecDepth 100000 in
set_option maxHeartbeats 8000000 in
theorem do_any (A : Option Addr) (n c cL : Nat) (xs : List (Int × List Int)) (W ps : List Int) (M G P : Int) (bL bY bA bW bP bB bE base Lb : Nat) (st : Sta) (w : World) (hC : Hid (NbCst A n c xs W M G P bL bY bA bW bP w)) (hS : Hid (StI bB bE base st w)) (H : Hid (NbOk xs M G P W))
    (hpl : ps.length = n) (Rp : Rds w (some ⟨Lb, 0, none⟩) n 1 (fun x : Int => [.int .i64 x]) ps) (hn : 1 ≤ n) (hp : Hid (∀ k, 0 ≤ gd ps k ∧ gd ps k ≤ 8)) (hne : bB ≠ bE) (hb1 : bB < base) (hb2 : bE < base) (hbs : base ≤ w.heap.size) :
    Calls Try.prog 42 #[.slice (some ⟨Lb, 0, none⟩) n cL, .pointer (some ⟨bL, 0, none⟩), .pointer (some ⟨bY, 0, none⟩), .pointer (some ⟨bA, 0, none⟩), .pointer (some ⟨bW, 0, none⟩), .pointer (some ⟨bP, 0, none⟩), .pointer (some ⟨bB, 0, none⟩), .pointer (some ⟨bE, 0, none⟩)] w fun e w' => e = .returned (.tuple #[]) ∧ StI bB bE base (visit (fun ps => offT xs ps M G P W 8) ps st) w' ∧ Keeps (fun k => k = bB ∨ k = bE) w w' := by
  obtain ⟨rL, rY, rA, rW, rP, R⟩ := hC.out
  have HXL := Lib.hid R.1
  have HPL := Lib.hid hpl
  have h6 : n ≤ 6 := by rw [← HXL.out]; exact H.out.h6
  have cL_ : w.cell? ⟨bL, 0, none⟩ = some (.slice A n c) := rL.cell 0
  have cY : w.cell? ⟨bY, 0, none⟩ = some (.int .i64 M) := rY.cell 0
  have hbl := blended_any A (some ⟨Lb, 0, none⟩) n c cL xs ps M w R (Lib.hid H.out.ok) Rp (Lib.hid H.out.fl) (Lib.hid H.out.hv) (Lib.hid H.out.nz) h6 hp H.out.hM
  have HBL := Lib.hid hbl
  have RL := Lib.hid rL; have RY := Lib.hid rY; have RA := Lib.hid rA; have RW := Lib.hid rW; have RP := Lib.hid rP
  clear hbl hpl rL rY rA rW rP
  go_enter Try.func42, Try.ntmps42
  go_wp2_with fail
  refine HBL.out.mono ?_
  rintro e w2 ⟨rfl, hb⟩
  have HB := Lib.hid hb
  replace RY := Lib.hid (RY.out.below hb); replace RA := Lib.hid (RA.out.below hb); replace RW := Lib.hid (RW.out.below hb); replace RP := Lib.hid (RP.out.below hb)
  have IX := Lib.hid (idxF8 (shaTo xs ps M 0 n) (shaTo xs ps M 1 n) (shaTo xs ps M 2 n) (shaTo xs ps M 3 n) (shaTo xs ps M 4 n) (shaTo xs ps M 5 n) (shaTo xs ps M 6 n) (shaTo xs ps M 7 n))
  clear cL_ cY hb HBL
  go_wp2_with fail
  go_loopw [9, 16] (fun s v wr => ∃ j : Nat, j ≤ 8 ∧ v = .int .i64 j ∧ s = .int .i64 (offT xs ps M G P W j) ∧ Hid (∃ q, wr = w2.drewN q)) (fun _ v _ => 8 - (intOf v).toNat)
  case atStart => exact ⟨0, by omega, rfl, rfl, Lib.hid ⟨0, rfl⟩⟩
  case round =>
    obtain ⟨j, hj, rfl, rfl, HQ⟩ := hrel
    have hB : Below w2.heap.size w2 wr := by obtain ⟨q, hq⟩ := HQ.out; rw [hq]; exact Joins.below_draws _ _ _
    by_cases hlt : j < 8
    · have hj1 : (j : Int) < 8 := by omega
      have ix := IX.out j hlt
      have hz : ([shaTo xs ps M 0 n, shaTo xs ps M 1 n, shaTo xs ps M 2 n, shaTo xs ps M 3 n, shaTo xs ps M 4 n, shaTo xs ps M 5 n, shaTo xs ps M 6 n, shaTo xs ps M 7 n] : List Int).getD j 0 = shaTo xs ps M j n := by
        have h8 : j = 0 ∨ j = 1 ∨ j = 2 ∨ j = 3 ∨ j = 4 ∨ j = 5 ∨ j = 6 ∨ j = 7 := by omega
        rcases h8 with rfl | rfl | rfl | rfl | rfl | rfl | rfl | rfl <;> rfl
      rw [hz] at ix
      have cA : wr.cell? ⟨bA, 0, none⟩ = some (.int .i64 G) := (RA.out.below hB).cell 0
      have cY : wr.cell? ⟨bY, 0, none⟩ = some (.int .i64 M) := (RY.out.below hB).cell 0
      have cP : wr.cell? ⟨bP, 0, none⟩ = some (.int .i64 P) := (RP.out.below hB).cell 0
      have cW : wr.cell? ⟨bW, j, none⟩ = some (.int .i32 (W.getD j 0)) := by
        rw [(RW.out.below hB).cell, nums_get, List.getElem?_eq_getElem (by rw [H.out.hWl]; exact hlt), List.getD_eq_getElem?_getD, List.getElem?_eq_getElem (by rw [H.out.hWl]; exact hlt)]
        rfl
      obtain ⟨b1, b2, b3, b4⟩ := H.out.bd hp.out j
      have hot := offT_bd H.out hp.out j
      have e1 : offT xs ps M G P W (j + 1) = offT xs ps M G P W j + ((shaTo xs ps M j xs.length * G - W.getD j 0 * P * M).natAbs : Int) := rfl
      rw [Int.mul_right_comm] at e1 b4
      rw [HXL.out] at b1 b2 e1
      obtain ⟨S, hS_⟩ : ∃ S, shaTo xs ps M j n = S := ⟨_, rfl⟩
      rw [hS_] at b1 b2 e1 ix
      have hub := H.out.hW j
      obtain ⟨u, hu⟩ : ∃ u, W.getD j 0 = u := ⟨_, rfl⟩
      rw [hu] at b4 e1 cW hub
      have b5 := mul_bd2 hub.1 hub.2 H.out.hM.1 H.out.hM.2
      obtain ⟨T, hT⟩ : ∃ T, offT xs ps M G P W j = T := ⟨_, rfl⟩
      rw [hT] at hot e1
      rw [hT]
      have E1 := Lib.hid e1
      clear e1 hS_ hu hT hz b3
      have v1 : IntKind.i64.wrap (S * G) = S * G := IntWalk.i64_in _ (by omega)
      have v2 : IntKind.i64.wrap (u * M) = u * M := IntWalk.i64_in _ (by omega)
      have v3 : IntKind.i64.wrap (u * M * P) = u * M * P := IntWalk.i64_in _ (by omega)
      have v4 : IntKind.i64.wrap (S * G - u * M * P) = S * G - u * M * P := IntWalk.i64_in _ (by omega)
      have v5 : IntKind.i64.wrap u = u := IntWalk.i64_in _ (by omega)
      have v6 : IntKind.i64.wrap (T + ((S * G - u * M * P).natAbs : Int)) = T + ((S * G - u * M * P).natAbs : Int) := IntWalk.i64_in _ (by omega)
      go_wp2_with fail
      go_quiet ((go_at_call 33; exact Calls.quiet_of_same ((size_any (S * G - u * M * P) _ (by unfold Mid; omega)).mono fun e w2 ⟨h1, h2⟩ => ⟨h1, h2.symm⟩)))
      go_wp2_with fail
      clear v1 v2 v3 v4 v5 v6
      go_roundw
      case rel => exact ⟨j + 1, by omega, by go_num, by rw [E1.out], Lib.hid (by obtain ⟨q, hq⟩ := HQ.out; exact ⟨q + nq, by rw [hq, World.drewN_drewN]⟩)⟩
      case measure => simp [intOf]; omega
    · have hj1 : ¬ (j : Int) < 8 := by omega
      obtain rfl : j = 8 := by omega
      have HBB := Lib.hid (below_then HB.out HB.out.size hB)
      have hws := HBB.out.size
      clear IX RY RA RW RP HB hB HQ
      obtain ⟨OF, hOF⟩ : ∃ x, offT xs ps M G P W 8 = x := ⟨_, rfl⟩
      rw [hOF]
      have HOF := Lib.hid hOF; clear hOF
      have hcl := clone_i64 (some ⟨Lb, 0, none⟩) n cL ps wr (Rp.below HBB.out) (by omega) (by omega)
      have HCL := Lib.hid hcl; clear hcl
      have fin : ∀ (rB0 : ∃ v0, Row w bB 37 [v0]) (rE0 : ∃ v0, Row w bE 2 [v0]) (w5 : World) (A5 : Option Addr) (c5 : Nat), w5.ownsRow wr.heap.size 2 1 (.slice A5 n c5) n (nums .i64 ps) → Below wr.heap.size wr w5 → StI bB bE base (some (ps, OF)) ((w5.setCell ⟨bB, 0, none⟩ (.slice A5 n c5)).setCell ⟨bE, 0, none⟩ (.int .i64 OF)) ∧ Keeps (fun k => k = bB ∨ k = bE) w ((w5.setCell ⟨bB, 0, none⟩ (.slice A5 n c5)).setCell ⟨bE, 0, none⟩ (.int .i64 OF)) := by
        rintro ⟨vb, rB⟩ ⟨ve, rE⟩ w5 A5 c5 O hb5
        obtain ⟨g5, L5, rfl, _⟩ := own_row O (by omega) (by omega)
        have hb6 := below_then HBB.out hws hb5
        have K5 : Keeps (fun k => k = bB ∨ k = bE) w5 ((w5.setCell ⟨bB, 0, none⟩ (.slice (some ⟨g5, 0, none⟩) n c5)).setCell ⟨bE, 0, none⟩ (.int .i64 OF)) := ((Keeps.refl _ _).set bB 0 _ (.inl rfl)).set bE 0 _ (.inr rfl)
        refine ⟨⟨⟨g5, 0, none⟩, c5, ?_, ?_, ?_⟩, (Keeps.below hb6).trans K5⟩
        · rw [HPL.out]; exact ((rB.below hb6).set 0 _).apart hne 0 _
        · exact ((rE.below hb6).apart (Ne.symm hne) 0 _).set 0 _
        · rw [HPL.out]
          exact K5.own (own_lower O (by omega)) (by rintro k hk (rfl | rfl) <;> omega)
      have FIN := Lib.hid fin; clear fin
      cases st with
      | none =>
        obtain ⟨rB, rE⟩ := hS.out
        have rB5 := rB.below HBB.out; have rE5 := rE.below HBB.out
        have cB : wr.cell? ⟨bB, 0, none⟩ = some (.slice none 0 0) := rB5.cell 0
        have FI := Lib.hid (FIN.out ⟨_, rB⟩ ⟨_, rE⟩)
        have HRB := Lib.hid rB5; have HRE := Lib.hid rE5
        clear rB rE rB5 rE5 FIN
        have hnil := fun w : World => run_eql_slice_nil (P := Try.prog) w 37 2 none 0 0 Try.underlying37
        go_wp2_with fail
        refine HCL.out.mono ?_
        rintro e w5 ⟨A5, c5, rfl, O5, hb5⟩
        have fB := (HRB.out.below hb5).frozen 0
        have fE := (HRE.out.below hb5).frozen 0
        obtain ⟨vB, kB⟩ : ∃ v, w5.cell? ⟨bB, 0, none⟩ = some v := ⟨_, (HRB.out.below hb5).cell 0⟩
        obtain ⟨vE, kE⟩ : ∃ v, w5.cell? ⟨bE, 0, none⟩ = some v := ⟨_, (HRE.out.below hb5).cell 0⟩
        have HF := Lib.hid (FI.out w5 A5 c5 O5 hb5)
        clear O5 hb5 cB
        go_wp2_with fail
        first | (first | ((try simp only [Exit.inBlock, Exit.then]); refine bodyPost_end (results_none rfl _ _ _) rfl ?_) | ((try simp only [Exit.inBlock, Exit.then]); refine bodyPost_ret (results_none rfl _ _ _) rfl ?_))
        exact ⟨rfl, by show StI bB bE base (some (ps, offT xs ps M G P W 8)) _; rw [HOF.out]; exact HF.out.1, HF.out.2⟩
      | some q =>
        obtain ⟨b, l⟩ := q
        obtain ⟨adB, cB_, rB, rE, OB⟩ := hS.out
        have rB5 := rB.below HBB.out; have rE5 := rE.below HBB.out
        have cB : wr.cell? ⟨bB, 0, none⟩ = some (.slice (some adB) b.length cB_) := rB5.cell 0
        have cE : wr.cell? ⟨bE, 0, none⟩ = some (.int .i64 l) := rE5.cell 0
        have FI := Lib.hid (FIN.out ⟨_, rB⟩ ⟨_, rE⟩)
        have HRB := Lib.hid rB5; have HRE := Lib.hid rE5
        have HST : Hid (StI bB bE base (some (b, l)) wr) := Lib.hid ⟨adB, cB_, rB5, rE5, own_below OB HBB.out⟩
        clear rB rE rB5 rE5 FIN OB
        have hnil := fun w : World => run_eql_slice_nil (P := Try.prog) w 37 2 (some adB) b.length cB_ Try.underlying37
        by_cases hlt2 : OF < l
        · go_wp2_with fail
          refine HCL.out.mono ?_
          rintro e w5 ⟨A5, c5, rfl, O5, hb5⟩
          have fB := (HRB.out.below hb5).frozen 0
          have fE := (HRE.out.below hb5).frozen 0
          obtain ⟨vB, kB⟩ : ∃ v, w5.cell? ⟨bB, 0, none⟩ = some v := ⟨_, (HRB.out.below hb5).cell 0⟩
          obtain ⟨vE, kE⟩ : ∃ v, w5.cell? ⟨bE, 0, none⟩ = some v := ⟨_, (HRE.out.below hb5).cell 0⟩
          have HF := Lib.hid (FI.out w5 A5 c5 O5 hb5)
          clear O5 hb5 cB cE
          go_wp2_with fail
          have e2 : visit (fun ps => offT xs ps M G P W 8) ps (some (b, l)) = some (ps, OF) := by
            show (if offT xs ps M G P W 8 < l then some (ps, offT xs ps M G P W 8) else some (b, l)) = _
            rw [HOF.out, if_pos hlt2]
          first | (first | ((try simp only [Exit.inBlock, Exit.then]); refine bodyPost_end (results_none rfl _ _ _) rfl ?_) | ((try simp only [Exit.inBlock, Exit.then]); refine bodyPost_ret (results_none rfl _ _ _) rfl ?_))
          exact ⟨rfl, by rw [e2]; exact HF.out.1, HF.out.2⟩
        · have e2 : visit (fun ps => offT xs ps M G P W 8) ps (some (b, l)) = some (b, l) := by
            show (if offT xs ps M G P W 8 < l then some (ps, offT xs ps M G P W 8) else some (b, l)) = _
            rw [HOF.out, if_neg hlt2]
          have E2 := Lib.hid e2; clear e2
          go_wp2_with fail
          first | (first | ((try simp only [Exit.inBlock, Exit.then]); refine bodyPost_end (results_none rfl _ _ _) rfl ?_) | ((try simp only [Exit.inBlock, Exit.then]); refine bodyPost_ret (results_none rfl _ _ _) rfl ?_))
          exact ⟨rfl, by rw [E2.out]; exact HST.out, Keeps.below HBB.out⟩
end Go.Proofs.Ytjbaaomodcgdgaa
