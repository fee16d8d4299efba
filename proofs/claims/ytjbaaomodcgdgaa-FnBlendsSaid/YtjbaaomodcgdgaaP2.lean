/- NearestBlend: the search over all parts: the plain law and the reference's contract. -/
import Derived.Test.YtjbaaomodcgdgaaP1
import Derived.Deep.AppendLies
namespace Go.Proofs.Ytjbaaomodcgdgaa
open Go.RowKit
set_option linter.unusedVariables false
set_option linter.unusedSimpArgs false
abbrev Sta := Option (List Int × Int)
def visit (F : List Int → Int) (ps : List Int) : Sta → Sta
  | none => some (ps, F ps)
  | some (b, l) => if F ps < l then some (ps, F ps) else some (b, l)
/-- All parts behind those that are given, d more places and the last one, with so many left. -/
def nbF (F : List Int → Int) : Nat → List Int → Nat → Sta → Sta
  | 0, pre, left, st => visit F (pre ++ [(left : Int)]) st
  | d + 1, pre, left, st => (List.range (left + 1)).foldl (fun (s : Sta) (k : Nat) => nbF F d (pre ++ [((k : Nat) : Int)]) (left - k) s) st
def nbTo (F : List Int → Int) (d : Nat) (pre : List Int) (left : Nat) (st : Sta) (k : Nat) : Sta := (List.range k).foldl (fun (s : Sta) (k : Nat) => nbF F d (pre ++ [((k : Nat) : Int)]) (left - k) s) st
theorem nbTo_zero (F : List Int → Int) (d : Nat) (pre : List Int) (left : Nat) (st : Sta) : nbTo F d pre left st 0 = st := rfl
theorem nbTo_succ (F : List Int → Int) (d : Nat) (pre : List Int) (left : Nat) (st : Sta) (k : Nat) : nbTo F d pre left st (k + 1) = nbF F d (pre ++ [(k : Int)]) (left - k) (nbTo F d pre left st k) := by
  unfold nbTo
  rw [List.range_succ, List.foldl_append]
  rfl
theorem nbF_succ (F : List Int → Int) (d : Nat) (pre : List Int) (left : Nat) (st : Sta) : nbF F (d + 1) pre left st = nbTo F d pre left st (left + 1) := rfl
theorem pre_snoc {pre : List Int} {k : Nat} (h : ∀ x ∈ pre, 0 ≤ x ∧ x ≤ 8) (hk : k ≤ 8) : ∀ x ∈ pre ++ [(k : Int)], 0 ≤ x ∧ x ≤ 8 := by
  intro x hx
  rcases List.mem_append.1 hx with hx | hx
  · exact h x hx
  · rw [List.mem_singleton.1 hx]; omega
theorem Rds.grown {α : Type} {w w' : World} {ad : Addr} {n sz g : Nat} {C : α → List Value} {xs : List α} (R : Rds w (some ad) n sz C xs) (h : w.grownBy w' (some g)) (hne : ad.block ≠ g) : Rds w' (some ad) n sz C xs := by
  refine ⟨R.1, R.2.1, fun h0 => ?_⟩
  obtain ⟨a, ha, hc⟩ := R.2.2 h0
  cases ha
  refine ⟨ad, rfl, fun k x hx j v hv => ?_⟩
  have h1 := hc k x hx j v hv
  have h2 := World.block_lt_of_cell? _ _ h1
  have hb : (ad.add (k * sz + j)).block = ad.block := by unfold Addr.add; split <;> rfl
  rw [World.cell?_of_block (w := w) (h.block _ h2 (by rw [hb]; intro e; exact hne (by cases e; rfl)))]
  exact h1
theorem grown_of_below {w w' : World} (h : Below w.heap.size w w') (g : Option Nat) : w.grownBy w' g := ⟨h.os, h.tape, h.output, h.size, fun k hk _ => h.block k hk⟩
theorem app_some {w : World} {b e K : Nat} {xs : List Value} {v : Value} (O : w.ownsRow b e 1 v (0 + K) xs) : ∃ A' c', v = .slice A' K c' := by
  rcases O.2 with ⟨rfl, h⟩ | ⟨g, cap, cur, rfl, _⟩
  · exact ⟨none, 0, by rw [show K = 0 by omega]⟩
  · exact ⟨_, _, by rw [Nat.zero_add]⟩
/-- The search's state. -/
def Srch (A : Option Addr) (n c : Nat) (W : List Int) (P M : Int) (W0 : World) (g base : Nat) (st : Sta) (w : World) : Prop :=
  Below W0.heap.size W0 w ∧ base ≤ w.heap.size ∧ match st with
    | none => Row w g 79 (srC A n c W P M (.slice none 0 0) 0 false)
    | some (ps, l) => ∃ Ab cb, Row w g 79 (srC A n c W P M (.slice Ab ps.length cb) l true) ∧ w.ownsRow base 2 1 (.slice Ab ps.length cb) ps.length (nums .i64 ps)
theorem Srch.row {A : Option Addr} {n c : Nat} {W : List Int} {P M : Int} {W0 : World} {g base : Nat} {st : Sta} {w : World} (h : Srch A n c W P M W0 g base st w) : ∃ best le fo, Row w g 79 (srC A n c W P M best le fo) ∧ fo = st.isSome ∧ (∀ ps l, st = some (ps, l) → le = l) := by
  obtain ⟨_, _, h3⟩ := h
  cases st with
  | none => exact ⟨_, _, _, h3, rfl, fun _ _ h => by cases h⟩
  | some q =>
    obtain ⟨ps, l⟩ := q
    obtain ⟨Ab, cb, h4, _⟩ := h3
    exact ⟨_, _, _, h4, rfl, fun _ _ h => by cases h; rfl⟩
theorem Srch.below {A : Option Addr} {n c : Nat} {W : List Int} {P M : Int} {W0 : World} {g base : Nat} {st : Sta} {w w' : World} (h : Srch A n c W P M W0 g base st w) (hb : Below w.heap.size w w') (hW : W0.heap.size ≤ w.heap.size) : Srch A n c W P M W0 g base st w' := by
  obtain ⟨h1, h2, h3⟩ := h
  refine ⟨h1.trans (hb.mono hW), Nat.le_trans h2 hb.size, ?_⟩
  cases st with
  | none => exact h3.below hb
  | some q =>
    obtain ⟨ps, l⟩ := q
    obtain ⟨Ab, cb, h4, h5⟩ := h3
    exact ⟨Ab, cb, h4.below hb, own_below h5 hb⟩
set_option maxRecDepth 100000 in
set_option maxHeartbeats 4000000 in
theorem from_any (A : Option Addr) (n c : Nat) (xs : List (Int × List Int)) (W : List Int) (P M G : Int) (W0 : World) (g base : Nat) (R : Rds W0 A n 9 FlC xs) (H : Hid (NbOk xs M G P W)) (hG : Hid (hsL W = G)) (hW0 : W0.heap.size ≤ g) (hgb : g < base) :
    ∀ (d : Nat) (pre : List Int) (left : Nat) (li : Int) (st : Sta) (w : World) (ad : Addr) (K c' : Nat), pre.length = K → K + d + 1 = n → (∀ x ∈ pre, 0 ≤ x ∧ x ≤ 8) → left ≤ 8 → li = (left : Int) → ad.block ≠ g → Rds w (some ad) K 1 (fun x : Int => [.int .i64 x]) pre → Srch A n c W P M W0 g base st w →
      Calls Try.prog 49 #[.pointer (some ⟨g, 0, none⟩), .slice (some ad) K c', .int .i64 li] w fun e w' => e = .returned (.tuple #[]) ∧ Srch A n c W P M W0 g base (nbF (fun ps => offT xs ps M G P W 8) d pre left st) w' ∧ w.grownBy w' (some g) := by
  obtain ⟨i0, hi0, hz0, hz1, hz2⟩ := info_parts info_i64
  have HXL := Lib.hid R.1
  have h6 : n ≤ 6 := by rw [← HXL.out]; exact H.out.h6
  intro d
  induction d with
  | zero =>
    intro pre left li st w ad K c' hkl hkn hpre hl hli hne RP_ S
    subst hli
    have HKL := Lib.hid hkl
    have hk1 : (K : Int) = (n : Int) - 1 := by omega
    have RP := Lib.hid RP_; have HPR := Lib.hid hpre; have HS := Lib.hid S
    clear hkl RP_ hpre S
    obtain ⟨best, le, fo, hr, hfo, hle⟩ := HS.out.row
    have hgw := hr.lt
    have hbw := HS.out.2.1
    have c0 : w.cell? ⟨g, 0, none⟩ = some (.slice A n c) := hr.cell 0
    have HR := Lib.hid hr; have HFO := Lib.hid hfo; have HLE := Lib.hid hle
    clear hr hfo hle
    go_enter Try.func49, Try.ntmps49
    have hcells : ∀ (j : Nat) (u : Value), (nums .i64 pre)[j]? = some u → (w.alloc (.cells #[] 2)).cell? (ad.add j) = some u := by
      intro j u hu
      rw [nums_get] at hu
      obtain ⟨x, hx, rfl⟩ := Option.map_eq_some_iff.1 hu
      have := RP.out.cellOf hx
      exact ((below_alloc1 w _).cell (World.block_lt_of_cell? w _ this)).trans this
    have HCE := Lib.hid hcells; clear hcells
    have O0 := own_empty w 2 1
    go_wp2_with (first
      | (at_builtin; refine wpList_append_own _ (by rfl) _ _ 37 (by rfl) w.heap.size 2 i0 (.int .i64 0) 1 8 Try.underlying37 hi0 hz0 hz1 hz2 rfl (by omega) _ 0 [] (by rfl) O0 ad K c' (nums .i64 pre) (by rfl) (by rw [nums_length, HKL.out, Nat.mul_one]) HCE.out (by intro u hu; obtain ⟨x, _, rfl⟩ := List.mem_map.1 hu; rfl) (by simp only [maxLen]; omega) (by omega) (by simp) ?_; intro v2 w2 O2 hg2 hv2; obtain ⟨A', c2, rfl⟩ := app_some O2; rw [Nat.zero_add, List.nil_append] at O2; have hB2 := (below_alloc1 w (.cells #[] 2)).grown hg2 (by simp) (fun k hk => by simp [Value.ownBlock] at hk; omega); have hB2s := hB2.size; clear O0)
      | (at_builtin; refine app_any (w0 := w) w.heap.size (by rfl) _ _ 37 2 (.int .i64 0) 1 8 (by rfl) Try.underlying37 info_i64 rfl (by omega) (by omega) _ (by rfl) 1 1 [.int .i64 (left : Int)] (by rfl) (by rfl) (by simp [Value.oneCell']) O2 hB2 hB2s (by omega) ?_; intro A3 c3 w3 O3 hB3 hg3; clear O2 hB2 hB2s hg2))
    rw [show nums .i64 pre ++ [.int .i64 (left : Int)] = nums .i64 (pre ++ [(left : Int)]) from (nums_snoc pre (left : Int)).symm] at O3
    have hps := gd_ps (pre_snoc HPR.out (k := left) hl)
    have hr3 := Lib.hid (HR.out.below hB3)
    have HS3 := Lib.hid (HS.out.below hB3 (by omega))
    have RL : Rds w3 A3 n 1 (fun x : Int => [.int .i64 x]) (pre ++ [(left : Int)]) := by have := own_rds1 O3 (by omega); rw [show K + 1 = n by omega] at this; exact this
    have HB3 := Lib.hid hB3; have HO3 := Lib.hid O3
    clear hg3 c0 hB3 O3
    rw [show K + 1 = n by omega] at HO3
    go_wp2_with fail
    refine (off_any g 79 A A3 n c c3 xs W (pre ++ [(left : Int)]) M G P best le fo w3 hr3 hG.out H (R.below HS3.out.1) RL (Lib.hid hps)).mono ?_
    rintro e w4 ⟨rfl, hq⟩
    have hB4 : Below w3.heap.size w3 w4 := by obtain ⟨q, hq⟩ := hq; rw [hq]; exact Joins.below_draws _ _ _
    have hr4 := Lib.hid (hr3.out.below hB4)
    have HS4 := Lib.hid (HS3.out.below hB4 (by have := HB3.out.size; omega))
    have HO4 := Lib.hid (own_below HO3.out hB4)
    have HB4 := Lib.hid (below_then HB3.out HB3.out.size hB4)
    have hw4 := HB4.out.size
    clear hq hr3 HS3 HO3 HB3 RL hB4 hps
    obtain ⟨OF, hOF⟩ : ∃ x, offT xs (pre ++ [(left : Int)]) M G P W 8 = x := ⟨_, rfl⟩
    rw [hOF]
    have HOF := Lib.hid hOF; clear hOF
    have hll : (pre ++ [(left : Int)]).length = n := by rw [List.length_append, HKL.out]; simp; omega
    have HLL := Lib.hid hll; clear hll
    have c12 : w4.cell? ⟨g, 12, none⟩ = some (.int .i64 le) := hr4.out.cell 12
    have c13 : w4.cell? ⟨g, 13, none⟩ = some (.bool fo) := hr4.out.cell 13
    have c11 : w4.cell? ⟨g, 11, none⟩ = some best := hr4.out.cell 11
    have f11 := hr4.out.frozen 11
    have f12 := hr4.out.frozen 12
    have f13 := hr4.out.frozen 13
    have hset : Hid (Srch A n c W P M W0 g base (some (pre ++ [(left : Int)], OF)) (((w4.setCell ⟨g, 11, none⟩ (.slice A3 n c3)).setCell ⟨g, 12, none⟩ (.int .i64 OF)).setCell ⟨g, 13, none⟩ (.bool true))) := by
      refine Lib.hid ⟨?_, ?_, A3, c3, ?_, ?_⟩
      · exact ((HS4.out.1.setCell (p := ⟨g, 11, none⟩) hW0 _).setCell (p := ⟨g, 12, none⟩) hW0 _).setCell (p := ⟨g, 13, none⟩) hW0 _
      · simp only [World.setCell, Array.size_modify]; omega
      · rw [HLL.out]
        exact ((hr4.out.set 11 (.slice A3 n c3)).set 12 (.int .i64 OF)).set 13 (.bool true)
      · rw [HLL.out]
        have hg : w4.grownBy (((w4.setCell ⟨g, 11, none⟩ (.slice A3 n c3)).setCell ⟨g, 12, none⟩ (.int .i64 OF)).setCell ⟨g, 13, none⟩ (.bool true)) (some g) := grown_set9 (grown_set9 (grown_set9 (grown_of_below (Below.refl _ _) _) 11 _) 12 _) 13 _
        exact own_lower (own_apart (v' := .slice (some ⟨g, 0, none⟩) 0 0) HO4.out hg (fun k k' h1 h2 => by
          have h4 := (own_base HO4.out k h1).1
          have h3 : g = k' := (by simpa [Value.ownBlock] using h2)
          omega)) (by omega)
    have hgr : Hid (w.grownBy (((w4.setCell ⟨g, 11, none⟩ (.slice A3 n c3)).setCell ⟨g, 12, none⟩ (.int .i64 OF)).setCell ⟨g, 13, none⟩ (.bool true)) (some g)) := Lib.hid (grown_set9 (grown_set9 (grown_set9 (grown_of_below HB4.out (some g)) 11 _) 12 _) 13 _)
    cases st with
    | none =>
      have hfo : fo = false := HFO.out
      subst hfo
      go_wp2_with fail
      first | (first | ((try simp only [Exit.inBlock, Exit.then]); refine bodyPost_end (results_none rfl _ _ _) rfl ?_) | ((try simp only [Exit.inBlock, Exit.then]); refine bodyPost_ret (results_none rfl _ _ _) rfl ?_))
      have e2 : visit (fun ps => offT xs ps M G P W 8) (pre ++ [(left : Int)]) none = some (pre ++ [(left : Int)], OF) := by
        show some (pre ++ [(left : Int)], offT xs (pre ++ [(left : Int)]) M G P W 8) = _
        rw [HOF.out]
      exact ⟨rfl, by show Srch A n c W P M W0 g base (visit _ _ _) _; rw [e2]; exact hset.out, hgr.out⟩
    | some q =>
      obtain ⟨b, l⟩ := q
      have hfo : fo = true := HFO.out
      subst hfo
      obtain rfl := HLE.out b l rfl
      by_cases hlt : OF < le
      · go_wp2_with fail
        first | (first | ((try simp only [Exit.inBlock, Exit.then]); refine bodyPost_end (results_none rfl _ _ _) rfl ?_) | ((try simp only [Exit.inBlock, Exit.then]); refine bodyPost_ret (results_none rfl _ _ _) rfl ?_))
        have e2 : visit (fun ps => offT xs ps M G P W 8) (pre ++ [(left : Int)]) (some (b, le)) = some (pre ++ [(left : Int)], OF) := by
          show (if offT xs (pre ++ [(left : Int)]) M G P W 8 < le then some (pre ++ [(left : Int)], offT xs (pre ++ [(left : Int)]) M G P W 8) else some (b, le)) = _
          rw [HOF.out, if_pos hlt]
        exact ⟨rfl, by show Srch A n c W P M W0 g base (visit _ _ _) _; rw [e2]; exact hset.out, hgr.out⟩
      · go_wp2_with fail
        first | (first | ((try simp only [Exit.inBlock, Exit.then]); refine bodyPost_end (results_none rfl _ _ _) rfl ?_) | ((try simp only [Exit.inBlock, Exit.then]); refine bodyPost_ret (results_none rfl _ _ _) rfl ?_))
        have e2 : visit (fun ps => offT xs ps M G P W 8) (pre ++ [(left : Int)]) (some (b, le)) = some (b, le) := by
          show (if offT xs (pre ++ [(left : Int)]) M G P W 8 < le then some (pre ++ [(left : Int)], offT xs (pre ++ [(left : Int)]) M G P W 8) else some (b, le)) = _
          rw [HOF.out, if_neg (by omega)]
        exact ⟨rfl, by show Srch A n c W P M W0 g base (visit _ _ _) _; rw [e2]; exact HS4.out, grown_of_below HB4.out _⟩
  | succ d ih =>
    intro pre left li st w ad K c' hkl hkn hpre hl hli hne RP_ S
    subst hli
    have HKL := Lib.hid hkl
    have hk1 : ¬ (K : Int) = (n : Int) - 1 := by omega
    have RPW := Lib.hid RP_; have HPR := Lib.hid hpre; have HS := Lib.hid S
    have IH := Lib.hid ih
    clear hkl RP_ hpre S ih
    obtain ⟨best, le, fo, hr, hfo, hle⟩ := HS.out.row
    have hgw := hr.lt
    have hbw := HS.out.2.1
    have c0 : w.cell? ⟨g, 0, none⟩ = some (.slice A n c) := hr.cell 0
    clear hr hfo hle
    go_enter Try.func49, Try.ntmps49
    go_wp2_with fail
    rw [show ((K : Int) == (n : Int) - 1) = false by simp; omega]
    clear c0
    go_loopw [8] (fun v wr => ∃ k : Nat, k ≤ left + 1 ∧ v = .int .i64 k ∧ Hid (Srch A n c W P M W0 g base (nbTo (fun ps => offT xs ps M G P W 8) d pre left st k) wr) ∧ Hid (w.grownBy wr (some g))) (fun v _ => left + 1 - (intOf v).toNat)
    case atStart => exact ⟨0, by omega, rfl, HS, Lib.hid (grown_of_below (Below.refl _ _) _)⟩
    case round =>
      obtain ⟨k, hk, rfl, HSk, HGk⟩ := hrel
      by_cases hlt : k ≤ left
      · have hki : (k : Int) ≤ (left : Int) := by omega
        have RP := Lib.hid (RPW.out.grown HGk.out hne)
        have hws := HGk.out.size
        have hcells : ∀ (j : Nat) (u : Value), (nums .i64 pre)[j]? = some u → (wr.alloc (.cells #[] 2)).cell? (ad.add j) = some u := by
          intro j u hu
          rw [nums_get] at hu
          obtain ⟨x, hx, rfl⟩ := Option.map_eq_some_iff.1 hu
          have := RP.out.cellOf hx
          exact ((below_alloc1 wr _).cell (World.block_lt_of_cell? wr _ this)).trans this
        have HCE := Lib.hid hcells; clear hcells
        have O0 := own_empty wr 2 1
        go_wp2_with (first
          | (at_builtin; refine wpList_append_own _ (by rfl) _ _ 37 (by rfl) wr.heap.size 2 i0 (.int .i64 0) 1 8 Try.underlying37 hi0 hz0 hz1 hz2 rfl (by omega) _ 0 [] (by rfl) O0 ad K c' (nums .i64 pre) (by rfl) (by rw [nums_length, HKL.out, Nat.mul_one]) HCE.out (by intro u hu; obtain ⟨x, _, rfl⟩ := List.mem_map.1 hu; rfl) (by simp only [maxLen]; omega) (by omega) (by simp) ?_; intro v2 w2 O2 hg2 hv2; obtain ⟨A', c2, rfl⟩ := app_some O2; rw [Nat.zero_add, List.nil_append] at O2; have hB2 := (below_alloc1 wr (.cells #[] 2)).grown hg2 (by simp) (fun k hk => by simp [Value.ownBlock] at hk; omega); have hB2s := hB2.size; clear O0)
          | (at_builtin; refine app_any (w0 := wr) wr.heap.size (by rfl) _ _ 37 2 (.int .i64 0) 1 8 (by rfl) Try.underlying37 info_i64 rfl (by omega) (by omega) _ (by rfl) 1 1 [.int .i64 (k : Int)] (by rfl) (by rfl) (by simp [Value.oneCell']) O2 hB2 hB2s (by omega) ?_; intro A3 c3 w3 O3 hB3 hg3; clear O2 hB2 hB2s hg2))
        rw [show nums .i64 pre ++ [.int .i64 (k : Int)] = nums .i64 (pre ++ [(k : Int)]) from (nums_snoc pre (k : Int)).symm] at O3
        obtain ⟨g2, L, rfl, hbg, _⟩ := own_row O3 (by omega) (by omega)
        have HSs := HSk.out.below hB3 (by omega)
        have hcall := IH.out (pre ++ [(k : Int)]) (left - k) ((left : Int) - (k : Int)) _ w3 ⟨g2, 0, none⟩ (K + 1) c3 (by rw [List.length_append, HKL.out]; rfl) (by omega) (pre_snoc HPR.out (by omega)) (by omega) (by omega) (by show g2 ≠ g; omega) (own_rds1 O3 (by omega)) HSs
        have HCA := Lib.hid hcall
        have HG3 := Lib.hid (grown_trans HGk.out (grown_of_below hB3 (some g)))
        have v1 : IntKind.i64.wrap ((left : Int) - (k : Int)) = (left : Int) - (k : Int) := IntWalk.i64_in _ (by omega)
        clear hcall hg3 hB3 O3 hbg HSs
        go_wp2_with fail
        refine HCA.out.mono ?_
        rintro e w5 ⟨rfl, HS5, HG5⟩
        have HS6 := Lib.hid HS5; have HG6 := Lib.hid (grown_trans HG3.out HG5)
        clear HS5 HG5 v1
        go_wp2_with fail
        go_roundw
        case rel => exact ⟨k + 1, by omega, by go_num, Lib.hid (by rw [nbTo_succ]; exact HS6.out), HG6⟩
        case measure => simp [intOf]; omega
      · obtain rfl : k = left + 1 := by omega
        have hki : ¬ ((left + 1 : Nat) : Int) ≤ (left : Int) := by omega
        go_wp2_with fail
        first | (first | ((try simp only [Exit.inBlock, Exit.then]); refine bodyPost_end (results_none rfl _ _ _) rfl ?_) | ((try simp only [Exit.inBlock, Exit.then]); refine bodyPost_ret (results_none rfl _ _ _) rfl ?_))
        exact ⟨rfl, by rw [nbF_succ]; exact HSk.out, HGk.out⟩
end Go.Proofs.Ytjbaaomodcgdgaa
