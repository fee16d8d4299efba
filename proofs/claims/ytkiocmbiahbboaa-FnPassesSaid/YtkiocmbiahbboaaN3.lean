/- Contracts: impl.FewestPasses and impl.EvenestPasses. -/
import Derived.Test.YtkiocmbiahbboaaN2
namespace Go.Proofs.Ytkiocmbiahbboaa
open Go.RowKit
set_option linter.unusedVariables false
set_option linter.unusedSimpArgs false
def spP (s : Int) (v : List Int) : Bool := decide (spreadL v ≤ s)
def fwFind (xs : List Int) (s : Int) (m : Nat) : Option Nat := (List.range (tot m)).find? fun r => spP s (rkV xs r)
def fwK (xs : List Int) (s m : Int) : Int := if webOk xs = true then (if 0 ≤ s ∧ inB m 0 6 = true then 0 else 2) else 1
def fwC (xs : List Int) (s m : Int) : Int := if fwK xs s m = 0 then (match fwFind xs s m.toNat with | some _ => 0 | none => 6) else fwK xs s m
def fwT (xs : List Int) (s m : Int) : ByteArray := if fwK xs s m = 0 then (match fwFind xs s m.toNat with | some r => rkS r | none => ByteArray.empty) else ByteArray.empty
def evK (xs : List Int) (m : Int) : Int := if webOk xs = true then (if inB m 0 6 = true then 0 else 2) else 1
def evR (xs : List Int) (m : Nat) : Nat := bestOf spreadL (rkV xs) (List.range (tot m))
def evT (xs : List Int) (m : Int) : ByteArray := if evK xs m = 0 then rkS (evR xs m.toNat) else ByteArray.empty
def evL (xs : List Int) (m : Int) : Int := if evK xs m = 0 then spreadL (rkV xs (evR xs m.toNat)) else 0
/-- Where the first r texts have been tried, of which none was even enough but perhaps the last one. -/
def fwB (xs : List Int) (s : Int) : Nat → Bool
  | 0 => false
  | q + 1 => spP s (rkV xs q)
def fwS (xs : List Int) (s : Int) : Nat → ByteArray
  | 0 => ByteArray.empty
  | q + 1 => if spP s (rkV xs q) = true then rkS q else ByteArray.empty
theorem fwB_no {xs : List Int} {s : Int} {r : Nat} (h : ∀ q, q < r → spP s (rkV xs q) = false) : fwB xs s r = false ∧ fwS xs s r = ByteArray.empty := by
  cases r with
  | zero => exact ⟨rfl, rfl⟩
  | succ r => have := h r (by omega); simp [fwB, fwS, this]
theorem fwFind_none {xs : List Int} {s : Int} {m : Nat} (h : ∀ q, q < tot m → spP s (rkV xs q) = false) : fwFind xs s m = none := by
  unfold fwFind
  rw [List.find?_eq_none]
  intro q hq
  simp [h q (List.mem_range.1 hq)]
theorem find_range {p : Nat → Bool} {r : Nat} (hr : p r = true) (h : ∀ q, q < r → p q = false) : ∀ T, r < T → (List.range T).find? p = some r := by
  intro T
  induction T with
  | zero => intro h; omega
  | succ T ih =>
    intro hT
    rw [List.range_succ, List.find?_append]
    rcases Nat.lt_or_ge r T with h1 | h1
    · rw [ih h1]; rfl
    · obtain rfl : r = T := by omega
      have : (List.range r).find? p = none := by
        rw [List.find?_eq_none]
        intro q hq
        simp [h q (List.mem_range.1 hq)]
      rw [this]
      simp [hr]
theorem fwFind_some {xs : List Int} {s : Int} {m r : Nat} (hT : r < tot m) (hr : spP s (rkV xs r) = true) (h : ∀ q, q < r → spP s (rkV xs q) = false) : fwFind xs s m = some r := find_range (p := fun r => spP s (rkV xs r)) hr h _ hT
def FwI (A : Option Addr) (n c : Nat) (xs : List Int) (s : Int) (bW bS bF bB : Nat) (r : Nat) (w : World) : Prop :=
  Row w bW 22 [.slice A n c] ∧ Row w bS 2 [.int .i64 s] ∧ Rds w A n 1 (fun x : Int => [.int .i64 x]) xs ∧ Row w bF 4 [.bool (fwB xs s r)] ∧ Row w bB 9 [.string (fwS xs s r)]
theorem few1_any (A : Option Addr) (n c : Nat) (xs : List Int) (s : Int) (bW bS bF bB r : Nat) (w : World) (hr : r < 1093) (W : Hid (Web xs n)) (hI : Hid (FwI A n c xs s bW bS bF bB r w)) (hst : ∀ q, q < r → spP s (rkV xs q) = false)
    (hd : Hid ((bW ≠ bF ∧ bW ≠ bB ∧ bS ≠ bF ∧ bS ≠ bB ∧ bF ≠ bB) ∧ ∀ ad, A = some ad → ad.block ≠ bF ∧ ad.block ≠ bB)) :
    Calls Try.prog 29 #[.string (rkS r), .pointer (some ⟨bW, 0, none⟩), .pointer (some ⟨bS, 0, none⟩), .pointer (some ⟨bF, 0, none⟩), .pointer (some ⟨bB, 0, none⟩)] w fun e w' => e = .returned (.bool (spP s (rkV xs r))) ∧ FwI A n c xs s bW bS bF bB (r + 1) w' ∧ Keeps (fun b => b = bF ∨ b = bB) w w' := by
  obtain ⟨rW, rS, R, rF, rB⟩ := hI.out
  obtain ⟨e1, e2⟩ := fwB_no hst
  rw [e1] at rF; rw [e2] at rB
  clear e1 e2 hst
  have hs20 : (rkS r).size ≤ 20 := by have := (rkD_le 6 r).2 (by have : tot 6 = 1093 := rfl; omega); rw [rkS_size]; omega
  have cW : w.cell? ⟨bW, 0, none⟩ = some (.slice A n c) := rW.cell 0
  have hcard := cardedAll_any A n c xs (rkS r) 0 w R W (by omega) hs20
  rw [crL_rank] at hcard
  have HC := Lib.hid hcard
  have HWV := Lib.hid (rkV_web W.out r)
  have RW := Lib.hid rW; have RS := Lib.hid rS; have RF := Lib.hid rF; have RB := Lib.hid rB; have RR := Lib.hid R
  obtain ⟨⟨n1, n2, n3, n4, n5⟩, n6⟩ := hd.out
  have N6 := Lib.hid n6
  have hn := W.out.2.2.1
  have hn2 := W.out.2.2.2.1
  clear hcard rW rS rF rB R n6 hI
  go_enter Try.func29, Try.ntmps29
  go_wp2_with fail
  refine HC.out.mono ?_
  rintro e w2 ⟨A2, c2, rfl, O2, hb2⟩
  have cS : w2.cell? ⟨bS, 0, none⟩ = some (.int .i64 s) := (RS.out.below hb2).cell 0
  have cF : w2.cell? ⟨bF, 0, none⟩ = some (.bool false) := (RF.out.below hb2).cell 0
  have cB : w2.cell? ⟨bB, 0, none⟩ = some (.string ByteArray.empty) := (RB.out.below hb2).cell 0
  have fF := (RF.out.below hb2).frozen 0
  have fB := (RB.out.below hb2).frozen 0
  have KB := Lib.hid (Keeps.below (S := fun b => b = bF ∨ b = bB) hb2)
  have R2 := Lib.hid (own_rds1 O2 (by omega))
  replace RW := Lib.hid (RW.out.below hb2); replace RS := Lib.hid (RS.out.below hb2); replace RF := Lib.hid (RF.out.below hb2); replace RB := Lib.hid (RB.out.below hb2); replace RR := Lib.hid (RR.out.below hb2)
  clear O2 hb2 HC
  go_wp2_with fail
  have hset : ∀ v, ((w2.setCell ⟨bF, 0, none⟩ v).drew).cell? ⟨bS, 0, none⟩ = some (.int .i64 s) := fun v => ((RS.out.apart n3 0 v).drew).cell 0
  go_region_held3 (fun w' => w'.cell? ⟨bS, 0, none⟩ = some (.int .i64 s))
    (first | assumption | exact hset _ | go_keep)
    ((go_at_call 25; refine (spreadOf_any A2 n c2 (rkV xs r) _ (R2.out.below (Below.refl _ _).drew) HWV.out.small (by omega) (by omega)).mono ?_; rintro e w3 ⟨rfl, rfl⟩))
  have r3 : Row ((w2.setCell ⟨bF, 0, none⟩ (.bool (decide (spreadL (rkV xs r) ≤ s)))).drew) bW 22 [.slice A n c] ∧ Row ((w2.setCell ⟨bF, 0, none⟩ (.bool (decide (spreadL (rkV xs r) ≤ s)))).drew) bS 2 [.int .i64 s] ∧ Rds ((w2.setCell ⟨bF, 0, none⟩ (.bool (decide (spreadL (rkV xs r) ≤ s)))).drew) A n 1 (fun x : Int => [.int .i64 x]) xs ∧ Row ((w2.setCell ⟨bF, 0, none⟩ (.bool (decide (spreadL (rkV xs r) ≤ s)))).drew) bF 4 [.bool (spP s (rkV xs r))] ∧ Row ((w2.setCell ⟨bF, 0, none⟩ (.bool (decide (spreadL (rkV xs r) ≤ s)))).drew) bB 9 [.string ByteArray.empty] ∧ Keeps (fun b => b = bF ∨ b = bB) w ((w2.setCell ⟨bF, 0, none⟩ (.bool (decide (spreadL (rkV xs r) ≤ s)))).drew) := by
    have K1 : Keeps (fun b => b = bF ∨ b = bB) w2 ((w2.setCell ⟨bF, 0, none⟩ (.bool (decide (spreadL (rkV xs r) ≤ s)))).drew) := ((Keeps.refl _ _).set bF 0 _ (.inl rfl)).trans (Keeps.below (Below.refl _ _).drew)
    exact ⟨K1.row RW.out (by rintro (h | h) <;> omega), K1.row RS.out (by rintro (h | h) <;> omega), K1.rds RR.out (fun ad h => by have := N6.out ad h; rintro (h | h) <;> omega), (RF.out.set 0 _).drew, (RB.out.apart (Ne.symm n5) 0 _).drew, KB.out.trans K1⟩
  generalize ((w2.setCell ⟨bF, 0, none⟩ (.bool (decide (spreadL (rkV xs r) ≤ s)))).drew) = w3 at r3 ⊢
  clear hset fF fB cB cS cF RW RS RF RB RR KB
  have hdec : decide (spreadL (rkV xs r) ≤ s) = spP s (rkV xs r) := rfl
  rw [hdec]
  clear hdec
  obtain ⟨rW, rS, rR, rF, rB, K3⟩ := r3
  have fB := rB.frozen 0
  have cB : w3.cell? ⟨bB, 0, none⟩ = some (.string ByteArray.empty) := rB.cell 0
  have cF : w3.cell? ⟨bF, 0, none⟩ = some (.bool (spP s (rkV xs r))) := rF.cell 0
  cases hp : spP s (rkV xs r)
  · have HF : Hid (FwI A n c xs s bW bS bF bB (r + 1) w3) := Lib.hid ⟨rW, rS, rR, rF, by simp only [fwS, hp]; exact rB⟩
    have HK := Lib.hid K3
    rw [hp] at cF
    have HP := Lib.hid hp
    clear rW rS rR rF rB K3 hp
    go_wp2_with fail
    go_ret
    exact ⟨by rw [HP.out]; rfl, HF.out, HK.out⟩
  · have K4 := (Keeps.refl (fun b => b = bF ∨ b = bB) w3).set bB 0 (.string (rkS r)) (.inr rfl)
    have HF : Hid (FwI A n c xs s bW bS bF bB (r + 1) (w3.setCell ⟨bB, 0, none⟩ (.string (rkS r)))) := Lib.hid ⟨K4.row rW (by rintro (h | h) <;> omega), K4.row rS (by rintro (h | h) <;> omega), K4.rds rR (fun ad h => by have := N6.out ad h; rintro (h | h) <;> omega), rF.apart n5 0 _, by simp only [fwS, hp]; exact rB.set 0 _⟩
    have HK := Lib.hid (K3.trans K4)
    have cF4 : (w3.setCell ⟨bB, 0, none⟩ (.string (rkS r))).cell? ⟨bF, 0, none⟩ = some (.bool true) := by rw [← hp]; exact (rF.apart n5 0 _).cell 0
    rw [hp] at cF
    have HP := Lib.hid hp
    clear rW rS rR rF rB K3 K4 hp
    go_wp2_with fail
    go_ret
    exact ⟨by rw [HP.out]; rfl, HF.out, HK.out⟩
def evB (xs : List Int) (r : Nat) : Nat := bestOf spreadL (rkV xs) (List.range r)
def EvI (A : Option Addr) (n c : Nat) (xs : List Int) (bW bL bB : Nat) (r : Nat) (w : World) : Prop :=
  Row w bW 22 [.slice A n c] ∧ Rds w A n 1 (fun x : Int => [.int .i64 x]) xs ∧ Row w bL 2 [.int .i64 (spreadL (rkV xs (evB xs r)))] ∧ Row w bB 9 [.string (rkS (evB xs r))]
theorem eve1_any (A : Option Addr) (n c : Nat) (xs : List Int) (bW bL bB r : Nat) (w : World) (hr : r < 1093) (W : Hid (Web xs n)) (hI : Hid (EvI A n c xs bW bL bB r w))
    (hd : Hid ((bW ≠ bL ∧ bW ≠ bB ∧ bL ≠ bB) ∧ ∀ ad, A = some ad → ad.block ≠ bL ∧ ad.block ≠ bB)) :
    Calls Try.prog 27 #[.string (rkS r), .pointer (some ⟨bW, 0, none⟩), .pointer (some ⟨bL, 0, none⟩), .pointer (some ⟨bB, 0, none⟩)] w fun e w' => e = .returned (.bool false) ∧ EvI A n c xs bW bL bB (r + 1) w' ∧ Keeps (fun b => b = bL ∨ b = bB) w w' := by
  obtain ⟨rW, R, rL, rB⟩ := hI.out
  have hs20 : (rkS r).size ≤ 20 := by have := (rkD_le 6 r).2 (by have : tot 6 = 1093 := rfl; omega); rw [rkS_size]; omega
  have cW : w.cell? ⟨bW, 0, none⟩ = some (.slice A n c) := rW.cell 0
  have hcard := cardedAll_any A n c xs (rkS r) 0 w R W (by omega) hs20
  rw [crL_rank] at hcard
  have HC := Lib.hid hcard
  have HWV := Lib.hid (rkV_web W.out r)
  have HEV : Hid (evB xs (r + 1) = better spreadL (rkV xs) (evB xs r) r) := Lib.hid (by unfold evB; rw [List.range_succ, bestOf_snoc])
  have RW := Lib.hid rW; have RL := Lib.hid rL; have RB := Lib.hid rB; have RR := Lib.hid R
  obtain ⟨⟨n1, n2, n3⟩, n6⟩ := hd.out
  have N6 := Lib.hid n6
  have hn := W.out.2.2.1
  have hn2 := W.out.2.2.2.1
  clear hcard rW rL rB R n6 hI
  go_enter Try.func27, Try.ntmps27
  go_wp2_with fail
  refine HC.out.mono ?_
  rintro e w2 ⟨A2, c2, rfl, O2, hb2⟩
  have cL : w2.cell? ⟨bL, 0, none⟩ = some (.int .i64 (spreadL (rkV xs (evB xs r)))) := (RL.out.below hb2).cell 0
  have KB := Lib.hid (Keeps.below (S := fun b => b = bL ∨ b = bB) hb2)
  have R2 := Lib.hid (own_rds1 O2 (by omega))
  replace RW := Lib.hid (RW.out.below hb2); replace RL := Lib.hid (RL.out.below hb2); replace RB := Lib.hid (RB.out.below hb2); replace RR := Lib.hid (RR.out.below hb2)
  clear O2 hb2 HC
  go_wp2_with fail
  go_quiet ((go_at_call 25; exact Calls.quiet_of_same ((spreadOf_any A2 n c2 (rkV xs r) _ (R2.out.below (Joins.below_draws _ _ _)) HWV.out.small (by omega) (by omega)).mono fun e w2 ⟨h1, h2⟩ => ⟨h1, h2.symm⟩)))
  have r3 : Row (w2.drewN nq) bW 22 [.slice A n c] ∧ Rds (w2.drewN nq) A n 1 (fun x : Int => [.int .i64 x]) xs ∧ Rds (w2.drewN nq) A2 n 1 (fun x : Int => [.int .i64 x]) (rkV xs r) ∧ Row (w2.drewN nq) bL 2 [.int .i64 (spreadL (rkV xs (evB xs r)))] ∧ Row (w2.drewN nq) bB 9 [.string (rkS (evB xs r))] ∧ Keeps (fun b => b = bL ∨ b = bB) w (w2.drewN nq) := by
    have hb : Below w2.heap.size w2 (w2.drewN nq) := Joins.below_draws _ _ _
    exact ⟨RW.out.below hb, RR.out.below hb, R2.out.below hb, RL.out.below hb, RB.out.below hb, KB.out.trans (Keeps.below hb)⟩
  generalize w2.drewN nq = w3 at r3 ⊢
  clear cL RW RL RB RR KB R2
  obtain ⟨rW, rR, r2, rL, rB, K3⟩ := r3
  by_cases hlt : spreadL (rkV xs r) < spreadL (rkV xs (evB xs r))
  · have eb : evB xs (r + 1) = r := by rw [HEV.out]; unfold better; rw [if_pos hlt]
    have fB := rB.frozen 0
    have fL := rL.frozen 0
    have cB : w3.cell? ⟨bB, 0, none⟩ = some (.string (rkS (evB xs r))) := rB.cell 0
    have cL : w3.cell? ⟨bL, 0, none⟩ = some (.int .i64 (spreadL (rkV xs (evB xs r)))) := rL.cell 0
    go_wp2_with fail
    refine (spreadOf_any A2 n c2 (rkV xs r) _ r2 HWV.out.small (by omega) (by omega)).mono ?_
    rintro e w4 ⟨rfl, rfl⟩
    have K4 := ((Keeps.refl (fun b => b = bL ∨ b = bB) w3).set bB 0 (.string (rkS r)) (.inr rfl)).set bL 0 (.int .i64 (spreadL (rkV xs r))) (.inl rfl)
    have HF : Hid (EvI A n c xs bW bL bB (r + 1) ((w3.setCell ⟨bB, 0, none⟩ (.string (rkS r))).setCell ⟨bL, 0, none⟩ (.int .i64 (spreadL (rkV xs r))))) := Lib.hid ⟨K4.row rW (by rintro (h | h) <;> omega), K4.rds rR (fun ad h => by have := N6.out ad h; rintro (h | h) <;> omega), by rw [eb]; exact (rL.apart n3 0 _).set 0 _, by rw [eb]; exact (rB.set 0 _).apart (Ne.symm n3) 0 _⟩
    have HK := Lib.hid (K3.trans K4)
    clear rW rR r2 rL rB K3 K4 eb
    go_wp2_with fail
    go_ret
    exact ⟨rfl, HF.out, HK.out⟩
  · have eb : evB xs (r + 1) = evB xs r := by rw [HEV.out]; unfold better; rw [if_neg hlt]
    have HI : Hid (EvI A n c xs bW bL bB (r + 1) w3) := Lib.hid ⟨rW, rR, by rw [eb]; exact rL, by rw [eb]; exact rB⟩
    have HK := Lib.hid K3
    clear rW rR r2 rL rB K3 eb
    go_wp2_with fail
    go_ret
    exact ⟨rfl, HI.out, HK.out⟩
end Go.Proofs.Ytkiocmbiahbboaa
