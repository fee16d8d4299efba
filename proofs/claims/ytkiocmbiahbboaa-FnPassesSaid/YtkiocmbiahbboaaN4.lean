/- Contracts: impl.FewestPasses and impl.EvenestPasses. -/
import Derived.Test.YtkiocmbiahbboaaN3
namespace Go.Proofs.Ytkiocmbiahbboaa
open Go.RowKit
set_option linter.unusedVariables false
set_option linter.unusedSimpArgs false
theorem rds_lt {w : World} {A : Option Addr} {n : Nat} {xs : List Int} (R : Rds w A n 1 (fun x : Int => [.int .i64 x]) xs) (hn : 0 < n) : ∀ ad, A = some ad → ad.block < w.heap.size := by
  rintro ad rfl
  obtain ⟨ad', x, h, hx, hc⟩ := R.at1 hn
  cases h
  have := World.block_lt_of_cell? _ _ hc
  have hb : (ad.add 0).block = ad.block := by unfold Addr.add; split <;> rfl
  rwa [hb] at this
theorem FwI.keeps {S : Nat → Prop} {A : Option Addr} {n c : Nat} {xs : List Int} {s : Int} {bW bS bF bB r : Nat} {w w' : World} (h : FwI A n c xs s bW bS bF bB r w) (k : Keeps S w w') (h1 : ¬ S bW) (h2 : ¬ S bS) (h3 : ¬ S bF) (h4 : ¬ S bB) (h5 : ∀ ad, A = some ad → ¬ S ad.block) : FwI A n c xs s bW bS bF bB r w' :=
  ⟨k.row h.1 h1, k.row h.2.1 h2, k.rds h.2.2.1 h5, k.row h.2.2.2.1 h3, k.row h.2.2.2.2 h4⟩
set_option maxHeartbeats 1000000 in
theorem iFewestPasses (A : Option Addr) (n c : Nat) (xs : List Int) (s m : Int) (w : World) (R : Rds w A n 1 (fun x : Int => [.int .i64 x]) xs) :
    Calls Try.prog 11 #[.slice A n c, .int .i64 s, .int .i64 m] w fun e w' => e = .returned (.tuple #[.string (fwT xs s m), .int .i64 (fwC xs s m)]) ∧ Below w.heap.size w w' := by
  have hl := R.1
  have hB2 : Below w.heap.size w ((w.alloc (.cells #[.slice A n c] 22)).alloc (.cells #[.int .i64 s] 2)) := (((Below.refl _ _).alloc (Nat.le_refl _) _).alloc (by simp) _)
  have hB2s := hB2.size
  have R2 := R.below hB2
  cases h1 : webOk xs
  · have e1 : fwK xs s m = 1 := by unfold fwK; rw [h1]; rfl
    have e2 : fwC xs s m = 1 := by unfold fwC; rw [e1]; rfl
    have e3 : fwT xs s m = ByteArray.empty := by unfold fwT; rw [e1]; rfl
    rw [e2, e3]
    clear e1 e2 e3 hl
    go_enter Try.func11, Try.ntmps11
    go_wp2_with (go_at_call 23; (refine (validWeb_any A n c xs _ R2).mono ?_); rintro e w1 ⟨rfl, hb1⟩; rw [h1])
    go_ret2
    exact ⟨rfl, below_then hB2 hB2s hb1⟩
  have H1 := Lib.hid h1
  have rS : Row ((w.alloc (.cells #[.slice A n c] 22)).alloc (.cells #[.int .i64 s] 2)) (w.heap.size + 1) 2 [.int .i64 s] := by
    have := Row.alloc (w.alloc (.cells #[.slice A n c] 22)) [.int .i64 s] 2
    rwa [World.size_alloc] at this
  have rW : Row ((w.alloc (.cells #[.slice A n c] 22)).alloc (.cells #[.int .i64 s] 2)) w.heap.size 22 [.slice A n c] := (Row.alloc w [.slice A n c] 22).below (below_alloc1 _ _)
  have hval := validWeb_any A n c xs _ R2
  rw [h1] at hval
  have HV := Lib.hid hval
  have hsz2 : ((w.alloc (.cells #[.slice A n c] 22)).alloc (.cells #[.int .i64 s] 2)).heap.size = w.heap.size + 1 + 1 := by simp
  have HS := Lib.hid rS; have HW := Lib.hid rW; have HR := Lib.hid R2; have HB := Lib.hid hB2
  clear rS rW hval R2 hB2
  go_enter Try.func11, Try.ntmps11
  go_wp2_with fail
  refine HV.out.mono ?_
  rintro e w1 ⟨rfl, hb1⟩
  have hB := below_then HB.out hB2s hb1
  have hw1 := hb1.size
  rw [hsz2] at hw1
  have cS : w1.cell? ⟨w.heap.size + 1, 0, none⟩ = some (.int .i64 s) := (HS.out.below hb1).cell 0
  have HR1 := Lib.hid (HR.out.below hb1); have HS1 := Lib.hid (HS.out.below hb1); have HW1 := Lib.hid (HW.out.below hb1); have HB1 := Lib.hid hB
  clear hb1 hB HV HR HS HW HB hB2s hsz2
  by_cases h0 : s < 0
  · have e1 : fwK xs s m = 2 := by unfold fwK; rw [h1, if_pos rfl, if_neg (by omega)]
    have E2 : Hid (fwC xs s m = 2) := Lib.hid (by unfold fwC; rw [e1]; rfl)
    have E3 : Hid (fwT xs s m = ByteArray.empty) := Lib.hid (by unfold fwT; rw [e1]; rfl)
    clear e1 hl h1
    go_wp2_with fail
    go_ret2
    exact ⟨by rw [E2.out, E3.out]; rfl, HB1.out⟩
  cases h2 : inB m 0 6
  · have e1 : fwK xs s m = 2 := by unfold fwK; rw [h1, if_pos rfl, h2]; simp
    have E2 : Hid (fwC xs s m = 2) := Lib.hid (by unfold fwC; rw [e1]; rfl)
    have E3 : Hid (fwT xs s m = ByteArray.empty) := Lib.hid (by unfold fwT; rw [e1]; rfl)
    have H2 := Lib.hid h2
    clear e1 hl h1 h2
    go_wp2_with (go_at_call 24; (refine (within_any _ _ _ _).mono ?_); rintro e w' ⟨rfl, rfl⟩; rw [H2.out])
    go_ret2
    exact ⟨by rw [E2.out, E3.out]; rfl, HB1.out⟩
  have hm : 0 ≤ m ∧ m ≤ 6 := by simpa [inB] using h2
  obtain ⟨M, rfl⟩ : ∃ M : Nat, m = (M : Int) := ⟨m.toNat, by omega⟩
  have e1 : fwK xs s (M : Int) = 0 := by unfold fwK; rw [h1, if_pos rfl, if_pos ⟨by omega, h2⟩]
  have EC : Hid (fwC xs s (M : Int) = match fwFind xs s M with | some _ => 0 | none => 6) := Lib.hid (by unfold fwC; rw [if_pos e1]; rfl)
  have ET : Hid (fwT xs s (M : Int) = match fwFind xs s M with | some r => rkS r | none => ByteArray.empty) := Lib.hid (by unfold fwT; rw [if_pos e1]; rfl)
  have WB := Lib.hid (webOk_web h1 hl)
  have H2 := Lib.hid h2
  have hn := WB.out.2.2.1
  have hAl := Lib.hid (rds_lt R (by omega))
  clear e1 hl h1 h2 R H1
  have hk : ∀ args w, (callFunc 29 args).run Try.prog w = .ok (.enter 29 args) w := enters_of Try.func29 rfl (by decide)
  have HK := Lib.hid hk; clear hk
  go_wp2_with (go_at_call 24; (refine (within_any _ _ _ _).mono ?_); rintro e w' ⟨rfl, rfl⟩; rw [H2.out])
  have hb5 : Below w1.heap.size w1 ((w1.alloc (.cells #[.string ⟨#[]⟩] 9)).alloc (.cells #[.bool false] 4)) := (((Below.refl _ _).alloc (Nat.le_refl _) _).alloc (by simp) _)
  have hI0 : FwI A n c xs s w.heap.size (w.heap.size + 1) (w1.heap.size + 1) w1.heap.size 0 ((w1.alloc (.cells #[.string ⟨#[]⟩] 9)).alloc (.cells #[.bool false] 4)) := by
    refine ⟨HW1.out.below hb5, HS1.out.below hb5, HR1.out.below hb5, ?_, (Row.alloc w1 [.string ⟨#[]⟩] 9).below (below_alloc1 _ _)⟩
    have := Row.alloc (w1.alloc (.cells #[.string ⟨#[]⟩] 9)) [.bool false] 4
    rwa [World.size_alloc] at this
  have hs5 : ((w1.alloc (.cells #[.string ⟨#[]⟩] 9)).alloc (.cells #[.bool false] 4)).heap.size = w1.heap.size + 1 + 1 := by simp
  have HB5 := Lib.hid (below_then HB1.out HB1.out.size hb5)
  clear hb5 HB1 HW1 HS1 HR1 cS
  generalize ((w1.alloc (.cells #[.string ⟨#[]⟩] 9)).alloc (.cells #[.bool false] 4)) = w5 at hI0 hs5 HB5 ⊢
  have hcall := texts_any (f := 29) (caps := #[.pointer (some ⟨w.heap.size, 0, none⟩), .pointer (some ⟨w.heap.size + 1, 0, none⟩), .pointer (some ⟨w1.heap.size + 1, 0, none⟩), .pointer (some ⟨w1.heap.size, 0, none⟩)])
    (I := FwI A n c xs s w.heap.size (w.heap.size + 1) (w1.heap.size + 1) w1.heap.size) (stop := fun r => spP s (rkV xs r)) (S := fun b => b = w1.heap.size + 1 ∨ b = w1.heap.size) M (by omega) w5 HK.out
    (Lib.hid (by rintro b (h | h) <;> omega)) (Lib.hid hI0)
    (Lib.hid (fun r wa wb h k => h.keeps k (by omega) (by omega) (by omega) (by omega) (fun ad ha => by have := hAl.out ad ha; omega)))
    (Lib.hid (fun r wa hr hI hs hst => by
      have e : (#[.string (rkS r)] ++ #[.pointer (some ⟨w.heap.size, 0, none⟩), .pointer (some ⟨w.heap.size + 1, 0, none⟩), .pointer (some ⟨w1.heap.size + 1, 0, none⟩), .pointer (some ⟨w1.heap.size, 0, none⟩)] : Array Value) = #[.string (rkS r), .pointer (some ⟨w.heap.size, 0, none⟩), .pointer (some ⟨w.heap.size + 1, 0, none⟩), .pointer (some ⟨w1.heap.size + 1, 0, none⟩), .pointer (some ⟨w1.heap.size, 0, none⟩)] := rfl
      rw [e]
      exact few1_any A n c xs s w.heap.size (w.heap.size + 1) (w1.heap.size + 1) w1.heap.size r wa (by have := tot_6 (m := M) (by omega); omega) WB (Lib.hid hI) hst (Lib.hid ⟨⟨by omega, by omega, by omega, by omega, by omega⟩, fun ad ha => by have := hAl.out ad ha; omega⟩)))
  have HC := Lib.hid hcall; clear hcall
  refine HC.out.mono ?_
  rintro e w6 ⟨rfl, hend, hk6⟩
  have HB6 : Hid (Below w.heap.size w w6) := Lib.hid (HB5.out.trans (hk6.toBelow (by rintro k hk (h | h) <;> omega) (by omega)))
  clear HB5 HC hk6 hI0
  rcases hend with ⟨hI6, hno⟩ | ⟨r, hr, hI6, hyes, hno⟩
  · obtain ⟨f1, f2⟩ := fwB_no hno
    have hf := fwFind_none hno
    rw [hf] at EC ET
    have cF : w6.cell? ⟨w1.heap.size + 1, 0, none⟩ = some (.bool false) := by have := hI6.2.2.2.1.cell 0; rw [f1] at this; exact this
    clear f1 f2 hf hno hI6
    go_wp2_with fail
    go_ret2
    exact ⟨by rw [EC.out, ET.out]; rfl, HB6.out⟩
  · have hf := fwFind_some hr hyes hno
    rw [hf] at EC ET
    have cF : w6.cell? ⟨w1.heap.size + 1, 0, none⟩ = some (.bool true) := by have := hI6.2.2.2.1.cell 0; rw [show fwB xs s (r + 1) = spP s (rkV xs r) from rfl] at this; rw [show spP s (rkV xs r) = true from hyes] at this; exact this
    have cB : w6.cell? ⟨w1.heap.size, 0, none⟩ = some (.string (rkS r)) := by have := hI6.2.2.2.2.cell 0; simp only [fwS, show spP s (rkV xs r) = true from hyes] at this; exact this
    clear hf hno hI6 hyes
    go_wp2_with fail
    go_ret2
    exact ⟨by rw [EC.out, ET.out]; rfl, HB6.out⟩
theorem EvI.keeps {S : Nat → Prop} {A : Option Addr} {n c : Nat} {xs : List Int} {bW bL bB r : Nat} {w w' : World} (h : EvI A n c xs bW bL bB r w) (k : Keeps S w w') (h1 : ¬ S bW) (h2 : ¬ S bL) (h3 : ¬ S bB) (h5 : ∀ ad, A = some ad → ¬ S ad.block) : EvI A n c xs bW bL bB r w' :=
  ⟨k.row h.1 h1, k.rds h.2.1 h5, k.row h.2.2.1 h2, k.row h.2.2.2 h3⟩
set_option maxHeartbeats 1000000 in
theorem iEvenestPasses (A : Option Addr) (n c : Nat) (xs : List Int) (m : Int) (w : World) (R : Rds w A n 1 (fun x : Int => [.int .i64 x]) xs) :
    Calls Try.prog 8 #[.slice A n c, .int .i64 m] w fun e w' => e = .returned (.tuple #[.string (evT xs m), .int .i64 (evL xs m), .int .i64 (evK xs m)]) ∧ Below w.heap.size w w' := by
  have hl := R.1
  have hB2 : Below w.heap.size w (w.alloc (.cells #[.slice A n c] 22)) := (Below.refl _ _).alloc (Nat.le_refl _) _
  have hB2s := hB2.size
  have R2 := R.below hB2
  cases h1 : webOk xs
  · have e1 : evK xs m = 1 := by unfold evK; rw [h1]; rfl
    have e2 : evL xs m = 0 := by unfold evL; rw [e1]; rfl
    have e3 : evT xs m = ByteArray.empty := by unfold evT; rw [e1]; rfl
    rw [e1, e2, e3]
    clear e1 e2 e3 hl
    go_enter Try.func8, Try.ntmps8
    go_wp2_with (go_at_call 23; (refine (validWeb_any A n c xs _ R2).mono ?_); rintro e w1 ⟨rfl, hb1⟩; rw [h1])
    go_ret3
    exact ⟨rfl, below_then hB2 hB2s hb1⟩
  have rW : Row (w.alloc (.cells #[.slice A n c] 22)) w.heap.size 22 [.slice A n c] := Row.alloc w [.slice A n c] 22
  have hval := validWeb_any A n c xs _ R2
  rw [h1] at hval
  have HV := Lib.hid hval
  have hsz2 : (w.alloc (.cells #[.slice A n c] 22)).heap.size = w.heap.size + 1 := by simp
  have HW := Lib.hid rW; have HR := Lib.hid R2; have HB := Lib.hid hB2
  clear rW hval R2 hB2
  go_enter Try.func8, Try.ntmps8
  go_wp2_with fail
  refine HV.out.mono ?_
  rintro e w1 ⟨rfl, hb1⟩
  have hB := below_then HB.out hB2s hb1
  have hw1 := hb1.size
  rw [hsz2] at hw1
  have cW : w1.cell? ⟨w.heap.size, 0, none⟩ = some (.slice A n c) := (HW.out.below hb1).cell 0
  have HR1 := Lib.hid (HR.out.below hb1); have HW1 := Lib.hid (HW.out.below hb1); have HB1 := Lib.hid hB
  clear hb1 hB HV HR HW HB hB2s hsz2
  cases h2 : inB m 0 6
  · have e1 : evK xs m = 2 := by unfold evK; rw [h1, if_pos rfl, h2]; rfl
    have E2 : Hid (evL xs m = 0) := Lib.hid (by unfold evL; rw [e1]; rfl)
    have E3 : Hid (evT xs m = ByteArray.empty) := Lib.hid (by unfold evT; rw [e1]; rfl)
    have H2 := Lib.hid h2; have E1 := Lib.hid e1
    clear e1 hl h1 h2
    go_wp2_with (go_at_call 24; (refine (within_any _ _ _ _).mono ?_); rintro e w' ⟨rfl, rfl⟩; rw [H2.out])
    go_ret3
    exact ⟨by rw [E1.out, E2.out, E3.out]; rfl, HB1.out⟩
  have hm : 0 ≤ m ∧ m ≤ 6 := by simpa [inB] using h2
  obtain ⟨M, rfl⟩ : ∃ M : Nat, m = (M : Int) := ⟨m.toNat, by omega⟩
  have e1 : evK xs (M : Int) = 0 := by unfold evK; rw [h1, if_pos rfl, if_pos h2]
  have EL : Hid (evL xs (M : Int) = spreadL (rkV xs (evR xs M))) := Lib.hid (by unfold evL; rw [if_pos e1]; rfl)
  have ET : Hid (evT xs (M : Int) = rkS (evR xs M)) := Lib.hid (by unfold evT; rw [if_pos e1]; rfl)
  have E1 := Lib.hid e1
  have WB := Lib.hid (webOk_web h1 hl)
  have H2 := Lib.hid h2
  have hn := WB.out.2.2.1
  have hn2 := WB.out.2.2.2.1
  have hAl := Lib.hid (rds_lt R (by omega))
  clear e1 hl h1 h2 R
  have hk : ∀ args w, (callFunc 27 args).run Try.prog w = .ok (.enter 27 args) w := enters_of Try.func27 rfl (by decide)
  have HK := Lib.hid hk; clear hk
  go_wp2_with (go_at_call 24; (refine (within_any _ _ _ _).mono ?_); rintro e w' ⟨rfl, rfl⟩; rw [H2.out])
  refine (spreadOf_any A n c xs _ HR1.out WB.out.small (by omega) (by omega)).mono ?_
  rintro e w2 ⟨rfl, rfl⟩
  go_wp2_with fail
  have hb5 : Below w1.heap.size w1 ((w1.alloc (.cells #[.string ⟨#[]⟩] 9)).alloc (.cells #[.int .i64 (spreadL xs)] 2)) := (((Below.refl _ _).alloc (Nat.le_refl _) _).alloc (by simp) _)
  have hI0 : EvI A n c xs w.heap.size (w1.heap.size + 1) w1.heap.size 0 ((w1.alloc (.cells #[.string ⟨#[]⟩] 9)).alloc (.cells #[.int .i64 (spreadL xs)] 2)) := by
    refine ⟨HW1.out.below hb5, HR1.out.below hb5, ?_, (Row.alloc w1 [.string ⟨#[]⟩] 9).below (below_alloc1 _ _)⟩
    have := Row.alloc (w1.alloc (.cells #[.string ⟨#[]⟩] 9)) [.int .i64 (spreadL xs)] 2
    rwa [World.size_alloc] at this
  have hs5 : ((w1.alloc (.cells #[.string ⟨#[]⟩] 9)).alloc (.cells #[.int .i64 (spreadL xs)] 2)).heap.size = w1.heap.size + 1 + 1 := by simp
  have HB5 := Lib.hid (below_then HB1.out HB1.out.size hb5)
  clear hb5 HB1 HW1 HR1 cW
  generalize ((w1.alloc (.cells #[.string ⟨#[]⟩] 9)).alloc (.cells #[.int .i64 (spreadL xs)] 2)) = w5 at hI0 hs5 HB5 ⊢
  have hcall := texts_any (f := 27) (caps := #[.pointer (some ⟨w.heap.size, 0, none⟩), .pointer (some ⟨w1.heap.size + 1, 0, none⟩), .pointer (some ⟨w1.heap.size, 0, none⟩)])
    (I := EvI A n c xs w.heap.size (w1.heap.size + 1) w1.heap.size) (stop := fun r => false) (S := fun b => b = w1.heap.size + 1 ∨ b = w1.heap.size) M (by omega) w5 HK.out
    (Lib.hid (by rintro b (h | h) <;> omega)) (Lib.hid hI0)
    (Lib.hid (fun r wa wb h k => h.keeps k (by omega) (by omega) (by omega) (fun ad ha => by have := hAl.out ad ha; omega)))
    (Lib.hid (fun r wa hr hI hs hst => by
      have e : (#[.string (rkS r)] ++ #[.pointer (some ⟨w.heap.size, 0, none⟩), .pointer (some ⟨w1.heap.size + 1, 0, none⟩), .pointer (some ⟨w1.heap.size, 0, none⟩)] : Array Value) = #[.string (rkS r), .pointer (some ⟨w.heap.size, 0, none⟩), .pointer (some ⟨w1.heap.size + 1, 0, none⟩), .pointer (some ⟨w1.heap.size, 0, none⟩)] := rfl
      rw [e]
      exact eve1_any A n c xs w.heap.size (w1.heap.size + 1) w1.heap.size r wa (by have := tot_6 (m := M) (by omega); omega) WB (Lib.hid hI) (Lib.hid ⟨⟨by omega, by omega, by omega⟩, fun ad ha => by have := hAl.out ad ha; omega⟩)))
  have HC := Lib.hid hcall; clear hcall
  refine HC.out.mono ?_
  rintro e w6 ⟨rfl, hend, hk6⟩
  have HB6 : Hid (Below w.heap.size w w6) := Lib.hid (HB5.out.trans (hk6.toBelow (by rintro k hk (h | h) <;> omega) (by omega)))
  clear HB5 HC hk6 hI0
  rcases hend with ⟨hI6, hno⟩ | ⟨r, hr, hI6, hyes, hno⟩
  · have cL : w6.cell? ⟨w1.heap.size + 1, 0, none⟩ = some (.int .i64 (spreadL (rkV xs (evR xs M)))) := hI6.2.2.1.cell 0
    have cB : w6.cell? ⟨w1.heap.size, 0, none⟩ = some (.string (rkS (evR xs M))) := hI6.2.2.2.cell 0
    clear hno hI6
    go_wp2_with fail
    go_quiet (fail)
    go_wp2_with fail
    go_ret3
    exact ⟨by rw [EL.out, ET.out, E1.out]; rfl, below_then HB6.out HB6.out.size (Joins.below_draws _ _ _)⟩
  · exact absurd hyes (by simp)
end Go.Proofs.Ytkiocmbiahbboaa
