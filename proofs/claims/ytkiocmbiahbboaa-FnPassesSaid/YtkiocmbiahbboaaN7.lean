/- Contracts: spec.FewestPasses and spec.EvenestPasses. -/
import Derived.Test.YtkiocmbiahbboaaN6
import Derived.Test.YtkiocmbiahbboaaN3
namespace Go.Proofs.Ytkiocmbiahbboaa
open Go.RowKit
set_option linter.unusedVariables false
set_option linter.unusedSimpArgs false
def psK (xs : List Int) (m : Int) (fine : Bool) : Int := if webOk xs = true then (if (inB m 0 6 && fine) = true then 0 else 2) else 1
theorem fwK_ps (xs : List Int) (s m : Int) : fwK xs s m = psK xs m (decide (0 ≤ s)) := by
  unfold fwK psK
  cases webOk xs <;> cases inB m 0 6 <;> by_cases h : 0 ≤ s <;> simp [h]
theorem evK_ps (xs : List Int) (m : Int) : evK xs m = psK xs m true := by
  unfold evK psK
  cases webOk xs <;> cases inB m 0 6 <;> simp
theorem psK_0 {xs : List Int} {m : Int} {f : Bool} (h : psK xs m f = 0) : webOk xs = true ∧ 0 ≤ m ∧ m ≤ 6 := by
  unfold psK at h
  split at h
  · rename_i h1
    split at h
    · rename_i h2
      simp only [Bool.and_eq_true] at h2
      have h3 : 0 ≤ m ∧ m ≤ 6 := by simpa [inB] using h2.1
      exact ⟨h1, h3⟩
    · omega
  · omega
theorem find_at {p : Nat → Bool} {L : List Nat} {i r : Nat} (h : NotYet p L i) (hr : L[i]? = some r) (hp : p r = true) : L.find? p = some r := by
  induction L generalizing i with
  | nil => simp at hr
  | cons x L ih =>
    cases i with
    | zero =>
      simp at hr
      subst hr
      simp [hp]
    | succ i =>
      have h0 := h 0 x (by omega) rfl
      rw [List.find?_cons, h0]
      exact ih (fun j y hj hy => h (j + 1) y (by omega) hy) hr
theorem find_no {p : Nat → Bool} {L : List Nat} (h : NotYet p L L.length) : L.find? p = none := by
  rw [List.find?_eq_none]
  intro x hx
  obtain ⟨j, hj, rfl⟩ := List.getElem_of_mem hx
  simp [h j _ hj (List.getElem?_eq_getElem hj)]
theorem rank_at {G : List Nd} {L : List Nat} (h : G.map (fun g => g.1) = L) {i : Nat} {g : Nd} (hg : G[i]? = some g) : L[i]? = some g.1 := by rw [← h, List.getElem?_map, hg]; rfl
theorem l02Passes_any (A : Option Addr) (n c : Nat) (xs : List Int) (m : Int) (fine : Bool) (w : World) (R : Rds w A n 1 (fun x : Int => [.int .i64 x]) xs) :
    Calls Try.prog 20 #[.slice A n c, .int .i64 m, .bool fine] w fun e w' => e = .returned (.int .i64 (psK xs m fine)) ∧ w = w' := by
  cases h1 : webOk xs
  · have e : psK xs m fine = 1 := by unfold psK; rw [h1]; rfl
    rw [e]
    go_enter Try.func20, Try.ntmps20
    go_wp2_with (go_at_call 41; (refine (l02Ok_any A n c xs _ R).mono ?_); rintro e w1 ⟨rfl, rfl⟩; rw [h1])
    go_ret
    exact ⟨rfl, rfl⟩
  · cases h2 : inB m 0 6
    · have e : psK xs m fine = 2 := by unfold psK; rw [h1, h2]; rfl
      rw [e]
      go_enter Try.func20, Try.ntmps20
      go_wp2_with (first
        | (go_at_call 41; (refine (l02Ok_any A n c xs _ R).mono ?_); rintro e w1 ⟨rfl, rfl⟩; rw [h1])
        | (go_at_call 42; (refine (l00In_any _ _ _ _).mono ?_); rintro e w1 ⟨rfl, rfl⟩; rw [h2]))
      go_ret
      exact ⟨rfl, rfl⟩
    · cases fine
      · have e : psK xs m false = 2 := by unfold psK; rw [h1, h2]; rfl
        rw [e]
        go_enter Try.func20, Try.ntmps20
        go_wp2_with (first
          | (go_at_call 41; (refine (l02Ok_any A n c xs _ R).mono ?_); rintro e w1 ⟨rfl, rfl⟩; rw [h1])
          | (go_at_call 42; (refine (l00In_any _ _ _ _).mono ?_); rintro e w1 ⟨rfl, rfl⟩; rw [h2]))
        go_ret
        exact ⟨rfl, rfl⟩
      · have e : psK xs m true = 0 := by unfold psK; rw [h1, h2]; rfl
        rw [e]
        go_enter Try.func20, Try.ntmps20
        go_wp2_with (first
          | (go_at_call 41; (refine (l02Ok_any A n c xs _ R).mono ?_); rintro e w1 ⟨rfl, rfl⟩; rw [h1])
          | (go_at_call 42; (refine (l00In_any _ _ _ _).mono ?_); rintro e w1 ⟨rfl, rfl⟩; rw [h2]))
        go_ret
        exact ⟨rfl, rfl⟩
set_option maxHeartbeats 1000000 in
theorem sFewestPasses (A : Option Addr) (n c : Nat) (xs : List Int) (s m : Int) (w : World) (R : Rds w A n 1 (fun x : Int => [.int .i64 x]) xs) :
    Calls Try.prog 10 #[.slice A n c, .int .i64 s, .int .i64 m] w fun e w' => e = .returned (.tuple #[.string (fwT xs s m), .int .i64 (fwC xs s m)]) ∧ Below w.heap.size w w' := by
  have hl := R.1
  obtain ⟨q, hq⟩ : ∃ q, psK xs m (decide (0 ≤ s)) = q := ⟨_, rfl⟩
  have hpas := l02Passes_any A n c xs m (decide (0 ≤ s)) w R
  rw [hq] at hpas
  have HP := Lib.hid hpas
  by_cases h0 : q = 0
  rotate_left
  · have e1 : fwK xs s m = q := by rw [fwK_ps, hq]
    have E2 : Hid (fwC xs s m = q) := Lib.hid (by unfold fwC; rw [if_neg (by omega), e1])
    have E3 : Hid (fwT xs s m = ByteArray.empty) := Lib.hid (by unfold fwT; rw [if_neg (by omega)])
    have f1 : (q == 0) = false := by simpa using h0
    have f2 : (q != 0) = true := by simpa using h0
    clear e1 hl hq hpas
    go_enter Try.func10, Try.ntmps10
    go_wp2_with fail
    refine HP.out.mono ?_
    rintro e w1 ⟨rfl, rfl⟩
    go_wp2_with fail
    go_ret2
    exact ⟨by rw [E2.out, E3.out]; rfl, Below.refl _ _⟩
  subst h0
  obtain ⟨hw, hm⟩ := psK_0 hq
  obtain ⟨M, rfl⟩ : ∃ M : Nat, m = (M : Int) := ⟨m.toNat, by omega⟩
  have e1 : fwK xs s (M : Int) = 0 := by rw [fwK_ps, hq]
  have hfind : fwFind xs s M = (fl (rkV xs) (tot M)).find? (fun r => spP s (rkV xs r)) := (find_fl (rkV xs) (spP s) (tot M)).symm
  have EC : Hid (fwC xs s (M : Int) = match (fl (rkV xs) (tot M)).find? (fun r => spP s (rkV xs r)) with | some _ => 0 | none => 6) := Lib.hid (by rw [← hfind]; unfold fwC; rw [if_pos e1]; rfl)
  have ET : Hid (fwT xs s (M : Int) = match (fl (rkV xs) (tot M)).find? (fun r => spP s (rkV xs r)) with | some r => rkS r | none => ByteArray.empty) := Lib.hid (by rw [← hfind]; unfold fwT; rw [if_pos e1]; rfl)
  have W := Lib.hid (webOk_web hw hl)
  obtain ⟨_, _, w3, w4, _⟩ := W.out
  have hall := l02All_any A n c xs M w R W (by omega)
  have HA := Lib.hid hall
  clear e1 hl hq hpas hfind hall
  go_enter Try.func10, Try.ntmps10
  go_wp2_with fail
  refine HP.out.mono ?_
  rintro e w1 ⟨rfl, rfl⟩
  go_wp2_with fail
  refine HA.out.mono ?_
  rintro e w2 ⟨G, A2, c2, rfl, hN, hB⟩
  have HN := Lib.hid hN; have HB := Lib.hid hB
  have hGT : G.length ≤ 1093 := by have h := fl_length (rkV xs) (tot M); rw [← hN.1, List.length_map] at h; have := tot_6 (m := M) (by omega); omega
  have HGL : Hid (G.length = (fl (rkV xs) (tot M)).length) := Lib.hid (by rw [← hN.1, List.length_map])
  clear hN hB HA HP
  go_wp2_with fail
  go_loop [10] (fun v => ∃ i : Nat, i ≤ G.length ∧ v = .int .i64 i ∧ Hid (NotYet (fun r => spP s (rkV xs r)) (fl (rkV xs) (tot M)) i)) (fun v => G.length - (intOf v).toNat)
  case atStart => exact ⟨0, by omega, rfl, Lib.hid (NotYet.zero _ _)⟩
  case round =>
    obtain ⟨i, hi, rfl, HY⟩ := hrel
    by_cases hlt : i < G.length
    · have hi2 : (i : Int) < (G.length : Int) := by omega
      obtain ⟨ad, g, rfl, hg, e0, e1⟩ := (own_rdsN HN.out.2.1 (by omega)).node hlt
      have Rg := Lib.hid (HN.out.2.2.rds (List.mem_of_getElem? hg) (by omega))
      have Hr := Lib.hid (rank_at HN.out.1 hg)
      have HV := Lib.hid (rkV_web W.out g.1)
      have hspr := l02Spread_any (some g.2.1) n g.2.2 (rkV xs g.1) w2 Rg.out HV.out.small (by omega) (by omega)
      have HS := Lib.hid hspr
      clear hg hspr
      go_wp2_with fail
      refine HS.out.mono ?_
      rintro e w3 ⟨rfl, rfl⟩
      by_cases hle : spreadL (rkV xs g.1) ≤ s
      · have hf := Lib.hid (find_at HY.out Hr.out (show spP s (rkV xs g.1) = true by simp [spP, hle]))
        have EC2 := Lib.hid EC.out; have ET2 := Lib.hid ET.out
        rw [hf.out] at EC2 ET2
        go_wp2_with fail
        go_ret2
        exact ⟨by rw [EC2.out, ET2.out]; rfl, HB.out⟩
      · have hn := Lib.hid (HY.out.step Hr.out (show spP s (rkV xs g.1) = false by simp [spP, hle]))
        go_wp2_with fail
        go_round
        case rel => exact ⟨i + 1, by omega, by go_num, hn⟩
        case measure => simp [intOf]; omega
    · obtain rfl : i = G.length := by omega
      have hy := HY.out
      rw [HGL.out] at hy
      have hf := find_no hy
      have EC2 := Lib.hid EC.out; have ET2 := Lib.hid ET.out
      rw [hf] at EC2 ET2
      have hni : ¬ (G.length : Int) < (G.length : Int) := by omega
      clear hf hy
      go_wp2_with fail
      go_ret2
      exact ⟨by rw [EC2.out, ET2.out]; rfl, HB.out⟩
theorem sprQ {A : Option Addr} {n c k : Nat} {xs : List Int} {w : World} (R : Rds (w.drewN k) A n 1 (fun x : Int => [.int .i64 x]) xs) (hS : Small xs) (h0 : 0 < n) (hn : n ≤ 1000) :
    Calls Try.prog 22 #[.slice A n c] (w.drewN k) fun e w'' => e = .returned (.int .i64 (spreadL xs)) ∧ ∃ m, w'' = w.drewN m :=
  Calls.quiet_of_same ((l02Spread_any A n c xs _ R hS h0 hn).mono fun e w2 ⟨h1, h2⟩ => ⟨h1, h2.symm⟩)
set_option maxHeartbeats 2000000 in
theorem sEvenestPasses (A : Option Addr) (n c : Nat) (xs : List Int) (m : Int) (w : World) (R : Rds w A n 1 (fun x : Int => [.int .i64 x]) xs) :
    Calls Try.prog 6 #[.slice A n c, .int .i64 m] w fun e w' => e = .returned (.tuple #[.string (evT xs m), .int .i64 (evL xs m), .int .i64 (evK xs m)]) ∧ Below w.heap.size w w' := by
  have hl := R.1
  obtain ⟨q, hq⟩ : ∃ q, psK xs m true = q := ⟨_, rfl⟩
  have hpas := l02Passes_any A n c xs m true w R
  rw [hq] at hpas
  have HP := Lib.hid hpas
  by_cases h0 : q = 0
  rotate_left
  · have e1 : evK xs m = q := by rw [evK_ps, hq]
    have E1 := Lib.hid e1
    have E2 : Hid (evL xs m = 0) := Lib.hid (by unfold evL; rw [if_neg (by omega)])
    have E3 : Hid (evT xs m = ByteArray.empty) := Lib.hid (by unfold evT; rw [if_neg (by omega)])
    have f1 : (q == 0) = false := by simpa using h0
    have f2 : (q != 0) = true := by simpa using h0
    clear e1 hl hq hpas
    go_enter Try.func6, Try.ntmps6
    go_wp2_with fail
    refine HP.out.mono ?_
    rintro e w1 ⟨rfl, rfl⟩
    go_wp2_with fail
    go_ret3
    exact ⟨by rw [E1.out, E2.out, E3.out]; rfl, Below.refl _ _⟩
  subst h0
  obtain ⟨hw, hm⟩ := psK_0 hq
  obtain ⟨M, rfl⟩ : ∃ M : Nat, m = (M : Int) := ⟨m.toNat, by omega⟩
  have e1 : evK xs (M : Int) = 0 := by rw [evK_ps, hq]
  have E1 := Lib.hid e1
  have EL : Hid (evL xs (M : Int) = spreadL (rkV xs (bestOf spreadL (rkV xs) (fl (rkV xs) (tot M))))) := Lib.hid (by unfold evL evR; rw [if_pos e1, best_fl]; rfl)
  have ET : Hid (evT xs (M : Int) = rkS (bestOf spreadL (rkV xs) (fl (rkV xs) (tot M)))) := Lib.hid (by unfold evT evR; rw [if_pos e1, best_fl]; rfl)
  have W := Lib.hid (webOk_web hw hl)
  obtain ⟨_, _, w3, w4, _⟩ := W.out
  have hall := l02All_any A n c xs M w R W (by omega)
  have HA := Lib.hid hall
  clear e1 hl hq hpas hall
  go_enter Try.func6, Try.ntmps6
  go_wp2_with fail
  refine HP.out.mono ?_
  rintro e w1 ⟨rfl, rfl⟩
  go_wp2_with fail
  refine HA.out.mono ?_
  rintro e w2 ⟨G, A2, c2, rfl, hN, hB⟩
  have HN := Lib.hid hN; have HB := Lib.hid hB
  have hGT : G.length ≤ 1093 := by have h := fl_length (rkV xs) (tot M); rw [← hN.1, List.length_map] at h; have := tot_6 (m := M) (by omega); omega
  have HGL : Hid (G.length = (fl (rkV xs) (tot M)).length) := Lib.hid (by rw [← hN.1, List.length_map])
  have h00 : (fl (rkV xs) (tot M))[0]? = some 0 := fl_at (V := rkV xs) (r := 0) rfl (tot_pos M)
  have hG0 : 0 < G.length := by have := HGL.out; have h := (List.getElem?_eq_some_iff.1 h00).1; omega
  obtain ⟨ad, g, rfl, hg, e0, e1⟩ := (own_rdsN HN.out.2.1 (by omega)).node hG0
  have hg0 : g.1 = 0 := by have := rank_at HN.out.1 hg; rw [h00] at this; simpa using this.symm
  have Hg := Lib.hid (List.mem_of_getElem? hg)
  have HG0 := Lib.hid hg0
  have H00 := Lib.hid h00
  clear hN hB HA HP h00 hg0 hg
  have f0 : w2.cell? ad = some (.slice (some g.2.1) n g.2.2) := by simpa [Addr.add] using e0
  have f1 : w2.cell? ⟨ad.block, ad.off + 1, none⟩ = some (.string (rkS g.1)) := by simpa [Addr.add] using e1
  go_wp2_with fail
  obtain ⟨w5, hw5⟩ : ∃ x, x = w2.alloc (.cells #[.slice (some g.2.1) n g.2.2, .string (rkS g.1)] 44) := ⟨_, rfl⟩
  rw [← hw5]
  have HX : Hid (Row w5 w2.heap.size 44 (NdC n g)) := Lib.hid (by rw [hw5]; exact Row.alloc w2 (NdC n g) 44)
  have HB5 : Hid (Below w2.heap.size w2 w5) := Lib.hid (by rw [hw5]; exact below_alloc1 w2 _)
  have HQ0 : Hid (g ∈ G ∧ g.1 = bestOf spreadL (rkV xs) ((fl (rkV xs) (tot M)).take 1)) := Lib.hid ⟨Hg.out, by
    have h := H00.out
    cases hL : fl (rkV xs) (tot M) with
    | nil => rw [hL] at h; simp at h
    | cons a L =>
      rw [hL] at h
      simp at h
      subst h
      rw [HG0.out]
      simp [bestOf, better]⟩
  clear hw5 f0 f1 e0 e1
  go_loopw [10] (fun v wr => ∃ (i : Nat) (q : Nd), 1 ≤ i ∧ i ≤ G.length ∧ v = .int .i64 i ∧ Hid (q ∈ G ∧ q.1 = bestOf spreadL (rkV xs) ((fl (rkV xs) (tot M)).take i)) ∧ Hid (Row wr w2.heap.size 44 (NdC n q)) ∧ Hid (Below w2.heap.size w2 wr)) (fun v _ => G.length - (intOf v).toNat)
  case atStart => exact ⟨1, g, by omega, by omega, rfl, HQ0, HX, HB5⟩
  case round =>
    clear HX HB5 HQ0
    obtain ⟨i, q, h1i, hi, rfl, HQ, HX, HB5⟩ := hrel
    have HNr := Lib.hid (HN.out.below HB5.out)
    have Rq := Lib.hid (HNr.out.2.2.rds HQ.out.1 (by omega))
    have HVq := Lib.hid (rkV_web W.out q.1)
    have q0 : wr.cell? ⟨w2.heap.size, 0, none⟩ = some (.slice (some q.2.1) n q.2.2) := HX.out.cell 0
    have q1 : wr.cell? ⟨w2.heap.size, 1, none⟩ = some (.string (rkS q.1)) := HX.out.cell 1
    by_cases hlt : i < G.length
    · have hi2 : (i : Int) < (G.length : Int) := by omega
      obtain ⟨ad', p, had, hp, e0, e1⟩ := (own_rdsN HNr.out.2.1 (by omega)).node hlt
      cases had
      have Rp := Lib.hid (HNr.out.2.2.rds (List.mem_of_getElem? hp) (by omega))
      have HVp := Lib.hid (rkV_web W.out p.1)
      have HP := Lib.hid hp
      have HST : Hid (bestOf spreadL (rkV xs) ((fl (rkV xs) (tot M)).take (i + 1)) = better spreadL (rkV xs) q.1 p.1) := Lib.hid (by
        rw [List.take_add_one, rank_at HN.out.1 hp, HQ.out.2]
        exact bestOf_snoc _ _ _ _)
      clear hp
      go_wp2_with fail
      go_quiet ((go_at_call 22; first | exact sprQ (Rp.out.below (Joins.below_draws _ _ _)) HVp.out.small (by omega) (by omega) | exact sprQ (Rq.out.below (Joins.below_draws _ _ _)) HVq.out.small (by omega) (by omega)))
      have hb3 : Below wr.heap.size wr (wr.drewN nq) := Joins.below_draws _ _ _
      have HX3 := Lib.hid (HX.out.below hb3)
      have HB3 := Lib.hid (HB5.out.trans (Joins.below_draws _ _ _ : Below w2.heap.size wr (wr.drewN nq)))
      have g0 := (hb3.cell (World.block_lt_of_cell? _ _ e0)).trans e0
      have g1 := (hb3.cell (World.block_lt_of_cell? _ _ e1)).trans e1
      generalize wr.drewN nq = w3 at HX3 HB3 g0 g1 ⊢
      clear hb3 q0 q1 e0 e1 HX HB5 HNr Rp Rq
      by_cases hbt : spreadL (rkV xs p.1) < spreadL (rkV xs q.1)
      · have HQ2 : Hid (p ∈ G ∧ p.1 = bestOf spreadL (rkV xs) ((fl (rkV xs) (tot M)).take (i + 1))) := Lib.hid ⟨List.mem_of_getElem? HP.out, by rw [HST.out]; unfold better; rw [if_pos hbt]⟩
        have q0 : w3.cell? ⟨w2.heap.size, 0, none⟩ = some (.slice (some q.2.1) n q.2.2) := HX3.out.cell 0
        have q1 : w3.cell? ⟨w2.heap.size, 1, none⟩ = some (.string (rkS q.1)) := HX3.out.cell 1
        have k0 := HX3.out.frozen 0
        have k1 := HX3.out.frozen 1
        have HX4 : Hid (Row ((w3.setCell ⟨w2.heap.size, 0, none⟩ (.slice (some p.2.1) n p.2.2)).setCell ⟨w2.heap.size, 1, none⟩ (.string (rkS p.1))) w2.heap.size 44 (NdC n p)) := Lib.hid ((HX3.out.set 0 _).set 1 _)
        have HB4 : Hid (Below w2.heap.size w2 ((w3.setCell ⟨w2.heap.size, 0, none⟩ (.slice (some p.2.1) n p.2.2)).setCell ⟨w2.heap.size, 1, none⟩ (.string (rkS p.1)))) := Lib.hid ((HB3.out.setCell (p := ⟨w2.heap.size, 0, none⟩) (Nat.le_refl _) _).setCell (p := ⟨w2.heap.size, 1, none⟩) (Nat.le_refl _) _)
        clear HX3 HB3
        go_wp2_with fail
        go_roundw
        case rel => exact ⟨i + 1, p, by omega, by omega, by go_num, HQ2, HX4, HB4⟩
        case measure => simp [intOf]; omega
      · have HQ2 : Hid (q ∈ G ∧ q.1 = bestOf spreadL (rkV xs) ((fl (rkV xs) (tot M)).take (i + 1))) := Lib.hid ⟨HQ.out.1, by rw [HST.out]; unfold better; rw [if_neg hbt]⟩
        go_wp2_with fail
        go_roundw
        case rel => exact ⟨i + 1, q, by omega, by omega, by go_num, HQ2, HX3, HB3⟩
        case measure => simp [intOf]; omega
    · obtain rfl : i = G.length := by omega
      have hni : ¬ (G.length : Int) < (G.length : Int) := by omega
      have hbest := HQ.out.2
      rw [List.take_of_length_le (by rw [HGL.out]; exact Nat.le_refl _)] at hbest
      rw [← hbest] at EL ET
      have HBf := Lib.hid (below_then HB.out HB.out.size HB5.out)
      clear hbest
      go_wp2_with fail
      go_quiet ((go_at_call 22; exact sprQ (Rq.out.below (Joins.below_draws _ _ _)) HVq.out.small (by omega) (by omega)))
      go_wp2_with fail
      go_ret3
      exact ⟨by rw [EL.out, ET.out, E1.out]; rfl, below_then HBf.out HBf.out.size (Joins.below_draws _ _ _)⟩
end Go.Proofs.Ytkiocmbiahbboaa
