/- Contracts: spec.l02All: all webs to which passes lead. -/
import Derived.Test.YtkiocmbiahbboaaN5
import Derived.Test.YtkiocmbiahbboaaN2
import Derived.Test.YtkiocmbiahbboaaKa
import Derived.Test.YtkiocmbiahbboaaC13
namespace Go.Proofs.Ytkiocmbiahbboaa
open Go.RowKit
set_option linter.unusedVariables false
set_option linter.unusedSimpArgs false
theorem fl_at {V : Nat → List Int} {r M : Nat} (hf : fstB V r = true) (hM : r < M) : (fl V M)[(fl V r).length]? = some r := by
  have pre : ∀ c, r + 1 ≤ c → ∃ R, fl V c = fl V (r + 1) ++ R := by
    intro c hc
    induction hc with
    | refl => exact ⟨[], by simp⟩
    | step _ ih =>
      obtain ⟨R, hR⟩ := ih
      exact ⟨_, by rw [fl_succ, hR, List.append_assoc]⟩
  obtain ⟨R, hR⟩ := pre M (by omega)
  rw [hR, fl_succ, hf]
  simp
theorem psC_or (d : Nat) : psC d = 114 ∨ psC d = 102 ∨ psC d = 99 := by
  unfold psC
  split
  · simp
  · split <;> simp
abbrev Nd := Nat × Addr × Nat
abbrev NdC (n : Nat) (g : Nd) : List Value := [.slice (some g.2.1) n g.2.2, .string (rkS g.1)]
/-- The webs of the nodes lie in rows of their own. -/
def NdI (xs : List Int) (n base : Nat) (G : List Nd) (w : World) : Prop := ∀ g, g ∈ G → w.ownsRow base 2 1 (.slice (some g.2.1) n g.2.2) n (nums .i64 (rkV xs g.1))
theorem own_kinds {w : World} {b b' : Nat} {e e' : TypeId} {s s' n n' : Nat} {v v' : Value} {xs xs' : List Value} (h : w.ownsRow b e s v n xs) (h' : w.ownsRow b' e' s' v' n' xs') (he : e ≠ e') : ∀ k k', v.ownBlock = some k → v'.ownBlock = some k' → k ≠ k' := by
  rintro k k' h1 h2 rfl
  rcases h.2 with ⟨rfl, _⟩ | ⟨g, cap, cur, rfl, _, h3, _⟩
  · cases h1
  · rcases h'.2 with ⟨rfl, _⟩ | ⟨g', cap', cur', rfl, _, h4, _⟩
    · cases h2
    · have e1 : g = k := by simpa [Value.ownBlock] using h1
      have e2 : g' = k := by simpa [Value.ownBlock] using h2
      subst e1 e2
      rw [h3] at h4
      simp only [Option.some.injEq, Obj.cells.injEq] at h4
      exact he h4.2.1
theorem NdI.below {xs : List Int} {n base : Nat} {G : List Nd} {w w' : World} (h : NdI xs n base G w) (hb : Below w.heap.size w w') : NdI xs n base G w' := fun g hg => own_below (h g hg) hb
theorem NdI.grown {xs : List Int} {n base b s m : Nat} {e : TypeId} {v : Value} {ys : List Value} {G : List Nd} {w w' : World} (h : NdI xs n base G w) (O : w.ownsRow b e s v m ys) (he : 2 ≠ e) (hg : w.grownBy w' v.ownBlock) : NdI xs n base G w' := fun g hgm => own_apart (h g hgm) hg (own_kinds (h g hgm) O he)
theorem NdI.rds {xs : List Int} {n base : Nat} {G : List Nd} {w : World} (h : NdI xs n base G w) {g : Nd} (hg : g ∈ G) (hn : n ≤ 12) : Rds w (some g.2.1) n 1 (fun x : Int => [.int .i64 x]) (rkV xs g.1) := own_rds1 (h g hg) (by omega)
theorem NdC_len (n : Nat) (G : List Nd) : (G.flatMap (NdC n)).length = G.length * 2 := by
  induction G with
  | nil => rfl
  | cons x xs ih => simp only [List.flatMap_cons, List.length_append, ih, List.length_cons, List.length_nil]; omega
theorem own_rdsN {w : World} {base n N c : Nat} {E : TypeId} {A : Option Addr} {G : List Nd} (O : w.ownsRow base E 2 (.slice A N c) N (G.flatMap (NdC n))) (hn : N ≤ 1048576) : Rds w A N 2 (NdC n) G := own_rds O (fun x _ => rfl) (by omega) (by omega)
theorem Rds.node {w : World} {A : Option Addr} {n N : Nat} {G : List Nd} (R : Rds w A N 2 (NdC n) G) {k : Nat} (hk : k < N) :
    ∃ ad g, A = some ad ∧ G[k]? = some g ∧ w.cell? (ad.add (k * 2)) = some (.slice (some g.2.1) n g.2.2) ∧ w.cell? ⟨(ad.add (k * 2)).block, (ad.add (k * 2)).off + 1, none⟩ = some (.string (rkS g.1)) := by
  obtain ⟨ad, h1, h2⟩ := R.2.2 (by omega)
  have hx : G[k]? = some (G[k]'(by rw [R.1]; exact hk)) := List.getElem?_eq_getElem _
  refine ⟨ad, _, h1, hx, h2 k _ hx 0 _ rfl, ?_⟩
  have h := h2 k _ hx 1 _ rfl
  rw [← Addr.add_add] at h
  exact h
theorem own_again {w ww : World} {base E N c i b : Nat} {ad : Addr} {xs : List Value} {v : Value} (O : w.ownsRow base E 2 (.slice (some ad) N c) N xs) (hN : 0 < N) (hq : i * 2 + b < N * 2) (hc : w.cell? ⟨(ad.add (i * 2)).block, (ad.add (i * 2)).off + b, none⟩ = some v)
    (h : ∀ g k x, Value.ownBlock (.slice (some ad) N c) = some g → xs[k]? = some x → ww.cell? ⟨g, k, none⟩ = some x) : ww.cell? ⟨(ad.add (i * 2)).block, (ad.add (i * 2)).off + b, none⟩ = some v := by
  obtain ⟨g, L, had, _, hrow, _⟩ := own_row O hN (by omega)
  cases had
  have ha : (⟨g, 0, none⟩ : Addr).add (i * 2) = ⟨g, i * 2, none⟩ := by unfold Addr.add; split <;> simp_all
  rw [ha] at hc ⊢
  rw [hrow.cell, List.getElem?_append_left (by rw [O.1]; exact hq)] at hc
  exact h g _ _ rfl hc
theorem infoNode : (Try.prog.info? 44).map (fun i => (i.zero, i.size, i.bytes)) = some (some (.agg #[.slice none 0 0, .string ByteArray.empty]), 2, 40) := by kernel_rfl
/-- What l02All gives back: nodes G with ranks L. -/
def NdRow (xs : List Int) (n base : Nat) (L : List Nat) (G : List Nd) (A : Option Addr) (c : Nat) (w : World) : Prop :=
  G.map (fun g => g.1) = L ∧ w.ownsRow base 44 2 (.slice A G.length c) G.length (G.flatMap (NdC n)) ∧ NdI xs n base G w
theorem NdRow.below {xs : List Int} {n base : Nat} {L : List Nat} {G : List Nd} {A : Option Addr} {c : Nat} {w w' : World} (h : NdRow xs n base L G A c w) (hb : Below w.heap.size w w') : NdRow xs n base L G A c w' := ⟨h.1, own_below h.2.1 hb, h.2.2.below hb⟩
theorem NdRow.push {xs : List Int} {n base : Nat} {L : List Nat} {G : List Nd} {A A2 : Option Addr} {c c2 c5 g5 q : Nat} {s : ByteArray} {w w' : World} (h : NdRow xs n base L G A c w) (hn : w.ownsRow base 2 1 (.slice (some ⟨g5, 0, none⟩) n c5) n (nums .i64 (rkV xs q)))
    (hg : w.grownBy w' (Value.ownBlock (.slice A G.length c))) (O : w'.ownsRow base 44 2 (.slice A2 (G.length + 1) c2) (G.length + 1) (G.flatMap (NdC n) ++ [.slice (some ⟨g5, 0, none⟩) n c5, .string s])) (hs : rkS q = s) :
    NdRow xs n base (L ++ [q]) (G ++ [(q, ⟨g5, 0, none⟩, c5)]) A2 c2 w' := by
  refine ⟨by rw [List.map_append, h.1]; rfl, ?_, ?_⟩
  · rw [List.length_append, List.length_singleton, List.flatMap_append]
    simp only [List.flatMap_cons, List.flatMap_nil, List.append_nil, NdC, hs]
    exact O
  · intro g hgm
    rcases List.mem_append.1 hgm with h1 | h1
    · exact h.2.2.grown h.2.1 (by decide) hg g h1
    · simp only [List.mem_singleton] at h1
      subst h1
      exact own_apart hn hg (own_kinds hn h.2.1 (by decide))
def frB (xs : List Int) (nx : List Int) (G : List Nd) (j : Nat) : Bool := (G.take j).all fun q => !(rkV xs q.1 == nx)
theorem frB_step {xs nx : List Int} {G : List Nd} {j : Nat} {g : Nd} (h : G[j]? = some g) : frB xs nx G (j + 1) = (frB xs nx G j && !(rkV xs g.1 == nx)) := by
  unfold frB
  rw [List.take_add_one, h, List.all_append]
  simp
theorem frB_all {xs : List Int} {G : List Nd} {M : Nat} (h : G.map (fun g => g.1) = fl (rkV xs) M) : frB xs (rkV xs M) G G.length = fstB (rkV xs) M := by
  unfold frB
  rw [List.take_length, ← fresh_iff, ← h, List.all_map]
  rfl
set_option maxRecDepth 100000 in
set_option maxHeartbeats 4000000 in
theorem l02All_any (A : Option Addr) (n c : Nat) (xs : List Int) (m : Nat) (w : World) (R : Rds w A n 1 (fun x : Int => [.int .i64 x]) xs) (W : Hid (Web xs n)) (hm : m ≤ 6) :
    Calls Try.prog 21 #[.slice A n c, .int .i64 m] w fun e w' => ∃ G A' c', e = .returned (.slice A' G.length c') ∧ NdRow xs n w.heap.size (fl (rkV xs) (tot m)) G A' c' w' ∧ Below w.heap.size w w' := by
  obtain ⟨hW1, _, hn, hn2, _⟩ := W.out
  have HT := tot_6 hm
  have hT0 := tot_pos m
  have HW1 := Lib.hid hW1; clear hW1
  go_enter Try.func21, Try.ntmps21
  go_wp2_with fail
  refine (l00Own_any A n c xs _ R (by omega) (by omega)).mono ?_
  rintro e w1 ⟨A1, c1, rfl, O1, hb1⟩
  obtain ⟨g1, L1, rfl, hg1, hg2, hg3, hg4, hg5⟩ := own_row O1 (by omega) (by omega)
  clear hg2 hg3 hg4 hg5
  have HO1 := Lib.hid O1; have HB1 := Lib.hid hb1; have hs1 := hb1.size
  clear O1 hb1
  go_wp2_with fail
  have hstart : NdRow xs n w.heap.size [0] [(0, ⟨g1, 0, none⟩, c1)] (some ⟨w1.heap.size, 0, none⟩) 1 (w1.alloc (.cells #[.slice (some ⟨g1, 0, none⟩) n c1, .string ⟨#[]⟩] 44)) := by
    refine ⟨rfl, ?_, ?_⟩
    · exact (Row.alloc w1 [.slice (some ⟨g1, 0, none⟩) n c1, .string ⟨#[]⟩] 44).own (n := 1) (sz := 2) hs1 (by simp [maxLen]) rfl
    · intro g hg
      simp only [List.mem_singleton] at hg
      subst hg
      exact own_below HO1.out (below_alloc1 _ _)
  have HS0 := Lib.hid hstart
  have HB2 := Lib.hid (below_then HB1.out HB1.out.size (below_alloc1 w1 (.cells #[.slice (some ⟨g1, 0, none⟩) n c1, .string ⟨#[]⟩] 44)))
  clear hstart HO1 HB1
  go_loopw [5, 6] (fun o v wr => ∃ (i : Nat) (A' : Option Addr) (c' : Nat) (L : List Nat) (G : List Nd), v = .int .i64 i ∧ o = .slice A' G.length c' ∧ Hid (Lv (rkV xs) (tot m) i L) ∧ Hid (NdRow xs n w.heap.size L G A' c' wr) ∧ Hid (Below w.heap.size w wr)) (fun _ v _ => tot m - (intOf v).toNat)
  case atStart => exact ⟨0, _, _, [0], [(0, ⟨g1, 0, none⟩, c1)], rfl, rfl, Lib.hid (Lv.zero _ hT0), HS0, HB2⟩
  case round =>
    obtain ⟨i, A', c', L, G, rfl, rfl, HL, HN, HB⟩ := hrel
    clear HS0 HB2
    have hbd := HL.out.bound
    have hGL : Hid (G.length = L.length) := Lib.hid (by rw [← HN.out.1, List.length_map])
    by_cases hlt : i < G.length
    · obtain ⟨r, hLr, hrT, hfr, hir, hLe⟩ := HL.out.at (rkV_tree xs) (by have := hGL.out; omega)
      have hi2 : (i : Int) < (G.length : Int) := by omega
      obtain ⟨ad, g, rfl, hg, e0, e1⟩ := (own_rdsN HN.out.2.1 (by have := hGL.out; omega)).node hlt
      have hgr : g.1 = r := by
        have h := HN.out.1
        rw [← h, List.getElem?_map, hg] at hLr
        simpa using hLr
      have hsz := rkS_size r
      have hmost := rkD_most hrT
      rw [hgr] at e1
      have hiT : i < tot m := by have := fl_length (rkV xs) r; omega
      have HGR := Lib.hid hgr; have HIR := Lib.hid hir; have HLE := Lib.hid hLe
      clear hgr hir hLe
      by_cases hrm : rkD r = m
      · have hL2 := Lib.hid (Lv.stay (V := rkV xs) hfr HIR.out hrT (hmost.1 hrm) HLE.out)
        have hsm : ((rkS r).size : Int) = (m : Int) := by omega
        clear hLr hmost hbd hg e0 hsz hrm
        go_wp2_with fail
        go_roundw
        case rel => exact ⟨i + 1, _, _, L, G, by go_num, rfl, hL2, HN, HB⟩
        case measure => simp [intOf]; omega
      · have h3r := hmost.2 hrm
        have hsm : ¬ ((rkS r).size : Int) = (m : Int) := by omega
        have hsb : (((rkS r).size : Int) == (m : Int)) = false := by simpa using hsm
        have hstep := Lib.hid (Lv.step (V := rkV xs) hfr HIR.out h3r)
        have HN0 : Hid (NdRow xs n w.heap.size (fl (rkV xs) (3 * r + 1 + 0)) G (some ad) c' wr) := Lib.hid (by
          have := HN.out
          rw [HLE.out, show min (3 * r + 1) (tot m) = 3 * r + 1 + 0 by omega] at this
          exact this)
        have HFI : Hid (∀ k, (fl (rkV xs) (3 * r + 1 + k))[i]? = some r) := Lib.hid (fun k => by rw [HIR.out]; exact fl_at hfr (by omega))
        clear hLr hmost hbd hg e0 hsz hrm HL HLE HN hGL
        have e1' := e1
        clear e1
        go_wp2_with fail
        clear e1'
        go_loopw [5, 7] (fun o v wr => ∃ (k : Nat) (A' : Option Addr) (c' : Nat) (G : List Nd), k ≤ 3 ∧ v = .int .i64 k ∧ o = .slice A' G.length c' ∧ Hid (NdRow xs n w.heap.size (fl (rkV xs) (3 * r + 1 + k)) G A' c' wr) ∧ Hid (Below w.heap.size w wr)) (fun _ v _ => 3 - (intOf v).toNat)
        case atStart => exact ⟨0, _, _, G, by omega, rfl, rfl, HN0, HB⟩
        case round =>
          clear HN0 HB HGR
          obtain ⟨k, A', c', G, hk, rfl, rfl, HN, HB⟩ := hrel
          by_cases hk3 : k < 3
          · have hGl : i < G.length := by
              have h := HFI.out k
              rw [← HN.out.1, List.getElem?_map] at h
              cases hq : G[i]? with
              | none => rw [hq] at h; simp at h
              | some q => exact (List.getElem?_eq_some_iff.1 hq).1
            have hGT : G.length ≤ 1093 := by
              have h := fl_length (rkV xs) (3 * r + 1 + k)
              rw [← HN.out.1, List.length_map] at h
              omega
            have RN := own_rdsN HN.out.2.1 (by omega)
            obtain ⟨ad, g, rfl, hg, e0, e1⟩ := RN.node hGl
            have HGR : Hid (g.1 = r) := Lib.hid (by
              have h := HFI.out k
              rw [← HN.out.1, List.getElem?_map, hg] at h
              simpa using h)
            have hgm : g ∈ G := List.mem_of_getElem? hg
            have Rg := HN.out.2.2.rds hgm hn2
            rw [HGR.out] at Rg
            have hcg := own_cap (HN.out.2.2 g hgm)
            have RG := Lib.hid Rg
            have HV := Lib.hid (rkV_web W.out r)
            have HCH := Lib.hid (rkV_child xs r k hk3)
            clear hg hgm Rg RN
            have hcall := fun wx (hb : Below wr.heap.size wr wx) => l02Pass_any (some g.2.1) n g.2.2 (rkV xs r) (psC k) 0 wx (RG.out.below hb) hcg HV (by omega) (psC_or k)
            rw [← HCH.out] at hcall
            have HC := Lib.hid hcall
            clear hcall
            have hk3i : (k : Int) < 3 := by omega
            go_wp2_with fail
            go_cut [8, 9, 10] (fun s8 s9 s10 wx => ∃ (g5 c5 : Nat), s8 = .slice (some ⟨g5, 0, none⟩) n c5 ∧ Hid (wx.ownsRow wr.heap.size 2 1 (.slice (some ⟨g5, 0, none⟩) n c5) n (nums .i64 (rkV xs (3 * r + 1 + k)))) ∧ Hid (Below wr.heap.size wr wx))
            case first =>
              have h012 : k = 0 ∨ k = 1 ∨ k = 2 := by omega
              rcases h012 with rfl | rfl | rfl
              all_goals
                go_region_held3 (fun w' => w'.cell? (ad.add (i * 2)) = some (.slice (some g.2.1) n g.2.2))
                  (first | assumption | go_keep)
                  ((go_at_call 39; refine (HC.out _ (Below.refl _ _).drew).mono ?_; rintro e w5 ⟨A5, c5, rfl, O5, hb5⟩; have e5 := (hb5.cell (World.block_lt_of_cell? _ _ e0)).trans e0))
                obtain ⟨g5, L5, rfl, hx1, hx2, hx3, hx4, hx5⟩ := own_row O5 (by omega) (by omega)
                have HO5 := Lib.hid (own_lower O5 (show wr.heap.size ≤ wr.drew.heap.size from Nat.le_refl _))
                have HB5 := Lib.hid (below_then (B := wr.heap.size) (Below.refl _ _).drew (Nat.le_refl _) hb5)
                clear O5 hb5 hx1 hx2 hx3 hx4 hx5 e5
                go_wp2_with fail
                go_meet
                exact ⟨g5, c5, rfl, HO5, HB5⟩
            case rest =>
              clear HC HCH hcg e0
              obtain ⟨g5, c5, rfl, O5, B5⟩ := hcut
              obtain ⟨w2, hw2⟩ : ∃ x, x = wc := ⟨_, rfl⟩
              subst hw2
              have HN2 := Lib.hid (HN.out.below B5.out)
              have HB2 := Lib.hid (below_then HB.out HB.out.size B5.out)
              have e1_2 := (B5.out.cell (World.block_lt_of_cell? _ _ e1)).trans e1
              rw [HGR.out] at e1_2
              have hs5 := B5.out.size
              have hsw := HB.out.size
              have HO5 := Lib.hid (own_lower O5.out hsw)
              clear HN HB B5 e1 O5 RG
              go_wp2_with fail
              go_loopw [11, 12] (fun f v wx => ∃ j : Nat, j ≤ G.length ∧ v = .int .i64 j ∧ f = .bool (frB xs (rkV xs (3 * r + 1 + k)) G j) ∧ Hid (Below w2.heap.size w2 wx)) (fun _ v _ => G.length - (intOf v).toNat)
              case atStart => exact ⟨0, by omega, rfl, rfl, Lib.hid (Below.refl _ _)⟩
              case round =>
                obtain ⟨j, hj, rfl, rfl, HBx⟩ := hrel
                by_cases hjl : j < G.length
                · have hji : (j : Int) < (G.length : Int) := by omega
                  have HNx := HN2.out.below HBx.out
                  obtain ⟨ad', q, had, hq, q0, q1⟩ := (own_rdsN HNx.2.1 (by omega)).node hjl
                  cases had
                  have Rq := Lib.hid (HNx.2.2.rds (List.mem_of_getElem? hq) hn2)
                  have HST := Lib.hid (frB_step (xs := xs) (nx := rkV xs (3 * r + 1 + k)) hq)
                  have Rn := Lib.hid (own_rds1 (own_below HO5.out HBx.out) (by omega))
                  have hsmm := l00Same_any (some q.2.1) (some ⟨g5, 0, none⟩) n q.2.2 c5 (rkV xs q.1) (rkV xs (3 * r + 1 + k)) _ Rq.out Rn.out
                  obtain ⟨t, ht⟩ : ∃ t, (rkV xs q.1 == rkV xs (3 * r + 1 + k)) = t := ⟨_, rfl⟩
                  rw [ht] at hsmm HST
                  have HSM := Lib.hid hsmm
                  have q1' := q1
                  clear hsmm hq HNx ht q1 q1' Rq Rn
                  cases hfb : frB xs (rkV xs (3 * r + 1 + k)) G j
                  · rw [hfb] at HST
                    have HF := Lib.hid hfb; clear hfb
                    go_wp2_with fail
                    go_roundw
                    case rel => exact ⟨j + 1, by omega, by go_num, by rw [HST.out]; rfl, HBx⟩
                    case measure => simp [intOf]; omega
                  · rw [hfb] at HST
                    have HF := Lib.hid hfb; clear hfb
                    go_wp2_with fail
                    refine HSM.out.mono ?_
                    rintro e w6 ⟨rfl, hb6⟩
                    have HB6 := Lib.hid (below_then HBx.out HBx.out.size hb6)
                    clear hb6 q0
                    go_wp2_with fail
                    go_roundw
                    case rel => exact ⟨j + 1, by omega, by go_num, by rw [HST.out]; rfl, HB6⟩
                    case measure => simp [intOf]; omega
                · obtain rfl : j = G.length := by omega
                  have hji : ¬ (G.length : Int) < (G.length : Int) := by omega
                  have HFR := Lib.hid (frB_all HN2.out.1)
                  have HN3 := Lib.hid (HN2.out.below HBx.out)
                  have HB3 := Lib.hid (below_then HB2.out HB2.out.size HBx.out)
                  have HO3 := Lib.hid (own_below HO5.out HBx.out)
                  have e1_3 := (HBx.out.cell (World.block_lt_of_cell? _ _ e1_2)).trans e1_2
                  have HSUC := Lib.hid (fl_succ (rkV xs) (3 * r + 1 + k))
                  rw [HFR.out]
                  clear HN2 HB2 HO5 e1_2
                  cases hfv : fstB (rkV xs) (3 * r + 1 + k)
                  · rw [hfv] at HSUC
                    have HFV := Lib.hid hfv
                    go_wp2_with fail
                    go_roundw
                    case rel => exact ⟨k + 1, _, _, G, by omega, by go_num, rfl, Lib.hid (by rw [show 3 * r + 1 + (k + 1) = 3 * r + 1 + k + 1 by omega, HSUC.out]; simpa using HN3.out), HB3⟩
                    case measure => simp [intOf]; omega
                  · rw [hfv] at HSUC
                    have HFV := Lib.hid hfv
                    have h012 : k = 0 ∨ k = 1 ∨ k = 2 := by omega
                    have hsk : (rkS r).size + 1 ≤ 7 := by have h6 := (rkD_le m r).2 hrT; rw [rkS_size]; omega
                    have hsk2 : ¬ 9223372036854775807 < (rkS r).size + 1 := by omega
                    have hsz3 := HB3.out.size
                    have hgl2 : i * 2 + 1 < G.length * 2 := by omega
                    have hadb : Hid (∀ ww : World, (∀ gg kk x, Value.ownBlock (.slice (some ad) G.length c') = some gg → (G.flatMap (NdC n))[kk]? = some x → ww.cell? ⟨gg, kk, none⟩ = some x) → ww.cell? ⟨(ad.add (i * 2)).block, (ad.add (i * 2)).off + 1, none⟩ = some (.string (rkS r))) := Lib.hid (fun ww hw => own_again HN3.out.2.1 (by omega) hgl2 e1_3 hw)
                    clear hfv
                    rcases h012 with rfl | rfl | rfl
                    · have hs3 : (ByteArray.mk #[99, 102, 114]).size = 3 := rfl
                      have hsl : (ByteArray.mk #[99, 102, 114]).extract 0 1 = ByteArray.mk #[99] := rfl
                      have hwr : IntKind.i64.wrap 1 = 1 := by rfl
                      have HSL := Lib.hid (rkS_child r 0 (by omega))
                      go_wp2_with fail
                      go_region_held3 (fun w' => w'.cell? ⟨(ad.add (i * 2)).block, (ad.add (i * 2)).off + 1, none⟩ = some (.string (rkS r)))
                        (first | assumption | exact hadb.out _ hold | go_keep)
                        ((refine step_app2 (w0 := w) (W := wr) w.heap.size (by rfl) _ _ 41 44 (.agg #[.slice none 0 0, .string ByteArray.empty]) 2 40 (by rfl) Try.underlying41 infoNode rfl (by omega) (by omega) _ (by rfl) 1 1 [.slice (some ⟨g5, 0, none⟩) n c5, .string (rkS r ++ (⟨#[99]⟩ : ByteArray))] (by rfl) (by rfl) (by simp [Value.oneCell']) ⟨(Below.refl _ _).drew, by simp⟩ HN3.out.2.1 HB3.out hsz3 (by omega) (by omega) ?_; intro A2 c2 w3 O3 HBn hgr hold))
                      have HP := Lib.hid (HN3.out.push HO3.out hgr O3 (q := 3 * r + 1 + 0) (by rw [HSL.out, str_cat]; rfl))
                      have HB4 := Lib.hid HBn
                      rw [show fl (rkV xs) (3 * r + 1 + 0) ++ [3 * r + 1 + 0] = fl (rkV xs) (3 * r + 1 + 1) from (by have := HSUC.out; simp only [if_true] at this; exact this.symm)] at HP
                      clear O3 HBn hgr hold hsl hs3 hwr
                      go_wp2_with fail
                      go_roundw
                      case rel => exact ⟨1, A2, c2, _, by omega, by go_num, by rw [List.length_append]; rfl, HP, HB4⟩
                      case measure => simp [intOf]
                    · have hs3 : (ByteArray.mk #[99, 102, 114]).size = 3 := rfl
                      have hsl : (ByteArray.mk #[99, 102, 114]).extract 1 2 = ByteArray.mk #[102] := rfl
                      have hwr : IntKind.i64.wrap 2 = 2 := by rfl
                      have HSL := Lib.hid (rkS_child r 1 (by omega))
                      go_wp2_with fail
                      go_region_held3 (fun w' => w'.cell? ⟨(ad.add (i * 2)).block, (ad.add (i * 2)).off + 1, none⟩ = some (.string (rkS r)))
                        (first | assumption | exact hadb.out _ hold | go_keep)
                        ((refine step_app2 (w0 := w) (W := wr) w.heap.size (by rfl) _ _ 41 44 (.agg #[.slice none 0 0, .string ByteArray.empty]) 2 40 (by rfl) Try.underlying41 infoNode rfl (by omega) (by omega) _ (by rfl) 1 1 [.slice (some ⟨g5, 0, none⟩) n c5, .string (rkS r ++ (⟨#[102]⟩ : ByteArray))] (by rfl) (by rfl) (by simp [Value.oneCell']) ⟨(Below.refl _ _).drew, by simp⟩ HN3.out.2.1 HB3.out hsz3 (by omega) (by omega) ?_; intro A2 c2 w3 O3 HBn hgr hold))
                      have HP := Lib.hid (HN3.out.push HO3.out hgr O3 (q := 3 * r + 1 + 1) (by rw [HSL.out, str_cat]; rfl))
                      have HB4 := Lib.hid HBn
                      rw [show fl (rkV xs) (3 * r + 1 + 1) ++ [3 * r + 1 + 1] = fl (rkV xs) (3 * r + 1 + 2) from (by have := HSUC.out; simp only [if_true] at this; exact this.symm)] at HP
                      clear O3 HBn hgr hold hsl hs3 hwr
                      go_wp2_with fail
                      go_roundw
                      case rel => exact ⟨2, A2, c2, _, by omega, by go_num, by rw [List.length_append]; rfl, HP, HB4⟩
                      case measure => simp [intOf]
                    · have hs3 : (ByteArray.mk #[99, 102, 114]).size = 3 := rfl
                      have hsl : (ByteArray.mk #[99, 102, 114]).extract 2 3 = ByteArray.mk #[114] := rfl
                      have hwr : IntKind.i64.wrap 3 = 3 := by rfl
                      have HSL := Lib.hid (rkS_child r 2 (by omega))
                      go_wp2_with fail
                      go_region_held3 (fun w' => w'.cell? ⟨(ad.add (i * 2)).block, (ad.add (i * 2)).off + 1, none⟩ = some (.string (rkS r)))
                        (first | assumption | exact hadb.out _ hold | go_keep)
                        ((refine step_app2 (w0 := w) (W := wr) w.heap.size (by rfl) _ _ 41 44 (.agg #[.slice none 0 0, .string ByteArray.empty]) 2 40 (by rfl) Try.underlying41 infoNode rfl (by omega) (by omega) _ (by rfl) 1 1 [.slice (some ⟨g5, 0, none⟩) n c5, .string (rkS r ++ (⟨#[114]⟩ : ByteArray))] (by rfl) (by rfl) (by simp [Value.oneCell']) ⟨(Below.refl _ _).drew, by simp⟩ HN3.out.2.1 HB3.out hsz3 (by omega) (by omega) ?_; intro A2 c2 w3 O3 HBn hgr hold))
                      have HP := Lib.hid (HN3.out.push HO3.out hgr O3 (q := 3 * r + 1 + 2) (by rw [HSL.out, str_cat]; rfl))
                      have HB4 := Lib.hid HBn
                      rw [show fl (rkV xs) (3 * r + 1 + 2) ++ [3 * r + 1 + 2] = fl (rkV xs) (3 * r + 1 + 3) from (by have := HSUC.out; simp only [if_true] at this; exact this.symm)] at HP
                      clear O3 HBn hgr hold hsl hs3 hwr
                      go_wp2_with fail
                      go_roundw
                      case rel => exact ⟨3, A2, c2, _, by omega, by go_num, by rw [List.length_append]; rfl, HP, HB4⟩
                      case measure => simp [intOf]
          · obtain rfl : k = 3 := by omega
            go_wp2_with fail
            go_roundw
            case rel => exact ⟨i + 1, _, _, _, G, by go_num, rfl, hstep, HN, HB⟩
            case measure => simp [intOf]; omega
    · have hd := HL.out.done (rkV_tree xs) (by have := hGL.out; omega)
      have HN3 := Lib.hid HN.out
      rw [hd] at HN3
      have hni : ¬ (i : Int) < (G.length : Int) := by omega
      clear hd
      go_wp2_with fail
      go_ret
      exact ⟨G, A', c', rfl, HN3.out, HB.out⟩
end Go.Proofs.Ytkiocmbiahbboaa
