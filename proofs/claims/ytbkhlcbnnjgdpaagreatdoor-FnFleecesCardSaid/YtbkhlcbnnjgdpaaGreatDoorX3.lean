/- Contracts: heaps and fleeces compared; lists of heaps and of fleeces found the same (SameHeaps, SameFleeces). -/
import Derived.Test.YtbkhlcbnnjgdpaaGreatDoorBh
import Derived.Test.YtbkhlcbnnjgdpaaGreatDoorBv
import Derived.Test.YtbkhlcbnnjgdpaaGreatDoorBu
import Derived.ChangeKeysEq
import Derived.Laws.StructEq
import Derived.Deep.RegionHeld
import Derived.BigQuiet
import Derived.Deep.QuietTactic
namespace Go.Proofs.YtbkhlcbnnjgdpaaGreatDoor
open Go.RowKit
set_option linter.unusedVariables false
set_option linter.unusedSimpArgs false
theorem eqI32 (d : Nat) (a : Int) (w : World) : (Op.equalIn (d + 1) 21 (.int .i32 a) (.int .i32 a)).run Tryz.prog w = .ok true w := by
  rw [run_equalIn_int w d 21 .i32 .i32 a a Tryz.underlying21]
  simp
theorem infoI32 : ∃ i, Tryz.prog.info? 21 = some i := Option.isSome_iff_exists.1 (by kernel_rfl)
theorem eqHp (d : Nat) (a0 a1 a2 a3 a4 a5 a6 a7 : Int) (w : World) :
    (Op.equalIn (d + 2) 25 (.agg #[.int .i32 a0, .int .i32 a1, .int .i32 a2, .int .i32 a3, .int .i32 a4, .int .i32 a5, .int .i32 a6, .int .i32 a7]) (.agg #[.int .i32 a0, .int .i32 a1, .int .i32 a2, .int .i32 a3, .int .i32 a4, .int .i32 a5, .int .i32 a6, .int .i32 a7])).run Tryz.prog w = .ok true w := by
  obtain ⟨i, hi⟩ := infoI32
  rw [run_equalIn_array w (d + 1) _ _ heap_type hi]
  have hc : Tryz.prog.cellsOf 21 = 1 := by kernel_rfl
  rw [hc, show List.range 8 = [0, 1, 2, 3, 4, 5, 6, 7] from rfl]
  have p0 : (part 21 #[.int .i32 a0, .int .i32 a1, .int .i32 a2, .int .i32 a3, .int .i32 a4, .int .i32 a5, .int .i32 a6, .int .i32 a7] (0 * 1)).run Tryz.prog w = .ok (.int .i32 a0) w := by kernel_rfl
  have p1 : (part 21 #[.int .i32 a0, .int .i32 a1, .int .i32 a2, .int .i32 a3, .int .i32 a4, .int .i32 a5, .int .i32 a6, .int .i32 a7] (1 * 1)).run Tryz.prog w = .ok (.int .i32 a1) w := by kernel_rfl
  have p2 : (part 21 #[.int .i32 a0, .int .i32 a1, .int .i32 a2, .int .i32 a3, .int .i32 a4, .int .i32 a5, .int .i32 a6, .int .i32 a7] (2 * 1)).run Tryz.prog w = .ok (.int .i32 a2) w := by kernel_rfl
  have p3 : (part 21 #[.int .i32 a0, .int .i32 a1, .int .i32 a2, .int .i32 a3, .int .i32 a4, .int .i32 a5, .int .i32 a6, .int .i32 a7] (3 * 1)).run Tryz.prog w = .ok (.int .i32 a3) w := by kernel_rfl
  have p4 : (part 21 #[.int .i32 a0, .int .i32 a1, .int .i32 a2, .int .i32 a3, .int .i32 a4, .int .i32 a5, .int .i32 a6, .int .i32 a7] (4 * 1)).run Tryz.prog w = .ok (.int .i32 a4) w := by kernel_rfl
  have p5 : (part 21 #[.int .i32 a0, .int .i32 a1, .int .i32 a2, .int .i32 a3, .int .i32 a4, .int .i32 a5, .int .i32 a6, .int .i32 a7] (5 * 1)).run Tryz.prog w = .ok (.int .i32 a5) w := by kernel_rfl
  have p6 : (part 21 #[.int .i32 a0, .int .i32 a1, .int .i32 a2, .int .i32 a3, .int .i32 a4, .int .i32 a5, .int .i32 a6, .int .i32 a7] (6 * 1)).run Tryz.prog w = .ok (.int .i32 a6) w := by kernel_rfl
  have p7 : (part 21 #[.int .i32 a0, .int .i32 a1, .int .i32 a2, .int .i32 a3, .int .i32 a4, .int .i32 a5, .int .i32 a6, .int .i32 a7] (7 * 1)).run Tryz.prog w = .ok (.int .i32 a7) w := by kernel_rfl
  simp only [Op.eqItems, Sem.run_bind, p0, p1, p2, p3, p4, p5, p6, p7, Result.andThen_ok, eqI32, Bool.not_true, Bool.false_eq_true, if_false, Sem.run_pure]
theorem neHp (a0 a1 a2 a3 a4 a5 a6 a7 : Int) (w : World) :
    (binOp .neq 25 (.agg #[.int .i32 a0, .int .i32 a1, .int .i32 a2, .int .i32 a3, .int .i32 a4, .int .i32 a5, .int .i32 a6, .int .i32 a7]) (.agg #[.int .i32 a0, .int .i32 a1, .int .i32 a2, .int .i32 a3, .int .i32 a4, .int .i32 a5, .int .i32 a6, .int .i32 a7])).run Tryz.prog w = .ok (.bool false) w := by
  rw [run_neq_struct w 25, eqHp 9998 a0 a1 a2 a3 a4 a5 a6 a7 w]
  rfl
theorem eqFlc (d : Nat) (f a0 a1 a2 a3 a4 a5 a6 a7 : Int) (w : World) :
    (Op.equalIn (d + 3) 58 (.agg #[.int .i8 f, .int .i32 a0, .int .i32 a1, .int .i32 a2, .int .i32 a3, .int .i32 a4, .int .i32 a5, .int .i32 a6, .int .i32 a7]) (.agg #[.int .i8 f, .int .i32 a0, .int .i32 a1, .int .i32 a2, .int .i32 a3, .int .i32 a4, .int .i32 a5, .int .i32 a6, .int .i32 a7])).run Tryz.prog w = .ok true w := by
  have hS : Tryz.prog.underlying 58 = some (.struct (Tryz.prog.fieldsOf 58)) := by kernel_rfl
  have hF : (Tryz.prog.fieldsOf 58).toList.map (fun f => (f.name, f.type, f.offset)) = [("Fine", 56, 0), ("Grams", 25, 1)] := by kernel_rfl
  rw [run_equalIn_struct w (d + 2) 58 _ _ hS (by kernel_rfl)]
  generalize (Tryz.prog.fieldsOf 58).toList = fs at hF
  obtain ⟨f1, f2, rfl⟩ : ∃ f1 f2, fs = [f1, f2] := by
    have hl : fs.length = 2 := by have h := congrArg List.length hF; rw [List.length_map] at h; exact h
    match fs, hl with
    | [f1, f2], _ => exact ⟨f1, f2, rfl⟩
  simp only [List.map_cons, List.map_nil, List.cons.injEq, Prod.mk.injEq, and_true] at hF
  obtain ⟨⟨n1, t1, o1⟩, n2, t2, o2⟩ := hF
  have p0 : (part 56 #[.int .i8 f, .int .i32 a0, .int .i32 a1, .int .i32 a2, .int .i32 a3, .int .i32 a4, .int .i32 a5, .int .i32 a6, .int .i32 a7] 0).run Tryz.prog w = .ok (.int .i8 f) w := by kernel_rfl
  have p1 : (part 25 #[.int .i8 f, .int .i32 a0, .int .i32 a1, .int .i32 a2, .int .i32 a3, .int .i32 a4, .int .i32 a5, .int .i32 a6, .int .i32 a7] 1).run Tryz.prog w = .ok (.agg #[.int .i32 a0, .int .i32 a1, .int .i32 a2, .int .i32 a3, .int .i32 a4, .int .i32 a5, .int .i32 a6, .int .i32 a7]) w := by kernel_rfl
  have e0 : (Op.equalIn (d + 2) 56 (.int .i8 f) (.int .i8 f)).run Tryz.prog w = .ok true w := by
    rw [run_equalIn_int w (d + 1) 56 .i8 .i8 f f Tryz.underlying56]
    simp
  simp only [Op.eqFields, n1, n2, t1, t2, o1, o2, ne_eq, String.reduceEq, not_false_eq_true, if_true, Sem.run_bind, p0, p1, e0, Result.andThen_ok, eqHp, Bool.not_true, Bool.false_eq_true, if_false, Sem.run_pure]
theorem neFlc (f a0 a1 a2 a3 a4 a5 a6 a7 : Int) (w : World) :
    (binOp .neq 58 (.agg #[.int .i8 f, .int .i32 a0, .int .i32 a1, .int .i32 a2, .int .i32 a3, .int .i32 a4, .int .i32 a5, .int .i32 a6, .int .i32 a7]) (.agg #[.int .i8 f, .int .i32 a0, .int .i32 a1, .int .i32 a2, .int .i32 a3, .int .i32 a4, .int .i32 a5, .int .i32 a6, .int .i32 a7])).run Tryz.prog w = .ok (.bool false) w := by
  rw [run_neq_struct w 58, eqFlc 9997 f a0 a1 a2 a3 a4 a5 a6 a7 w]
  rfl
set_option maxRecDepth 100000 in
set_option maxHeartbeats 1000000 in
theorem sameHeaps_true (A A' : Option Addr) (n c c' : Nat) (xs : List (List Int)) (w : World) (R : Rds w A n 8 HE xs) (R' : Rds w A' n 8 HE xs) (hA : n = 0 ∨ ∃ g, A = some ⟨g, 0, none⟩) (hA' : n = 0 ∨ ∃ g, A' = some ⟨g, 0, none⟩) :
    Calls Tryz.prog 21 #[.slice A n c, .slice A' n c'] w fun e w' => e = .returned (.bool true) ∧ Below w.heap.size w w' := by
  have hn := R.2.1
  have hnl := R.1
  go_enter Tryz.func21, Tryz.ntmps21
  go_wp2_with fail
  go_loopw [5] (fun v wr => ∃ k : Nat, k ≤ n ∧ v = .int .i64 k ∧ Hid (Below w.heap.size w wr)) (fun v _ => n - (intOf v).toNat)
  case atStart => exact ⟨0, by omega, rfl, Lib.hid (Below.refl _ _)⟩
  case round =>
    obtain ⟨j, hj, rfl, hB⟩ := hrel
    by_cases hlt : j < n
    · as_aux_lemma =>
      obtain ⟨ad, h1, h2⟩ := (R.below hB.out).2.2 (by omega)
      obtain ⟨ad', h1', h2'⟩ := (R'.below hB.out).2.2 (by omega)
      obtain ⟨g, hg⟩ := hA.resolve_left (by omega)
      obtain ⟨g', hg'⟩ := hA'.resolve_left (by omega)
      rw [hg] at h1
      rw [hg'] at h1'
      cases h1
      cases h1'
      subst hg
      subst hg'
      obtain ⟨x, hx⟩ : ∃ x, xs[j]? = some x := ⟨_, List.getElem?_eq_getElem (by omega)⟩
      obtain ⟨a0, ha0⟩ : ∃ y, x.getD 0 0 = y := ⟨_, rfl⟩
      obtain ⟨a1, ha1⟩ : ∃ y, x.getD 1 0 = y := ⟨_, rfl⟩
      obtain ⟨a2, ha2⟩ : ∃ y, x.getD 2 0 = y := ⟨_, rfl⟩
      obtain ⟨a3, ha3⟩ : ∃ y, x.getD 3 0 = y := ⟨_, rfl⟩
      obtain ⟨a4, ha4⟩ : ∃ y, x.getD 4 0 = y := ⟨_, rfl⟩
      obtain ⟨a5, ha5⟩ : ∃ y, x.getD 5 0 = y := ⟨_, rfl⟩
      obtain ⟨a6, ha6⟩ : ∃ y, x.getD 6 0 = y := ⟨_, rfl⟩
      obtain ⟨a7, ha7⟩ : ∃ y, x.getD 7 0 = y := ⟨_, rfl⟩
      have hC : HE x = [.int .i32 a0, .int .i32 a1, .int .i32 a2, .int .i32 a3, .int .i32 a4, .int .i32 a5, .int .i32 a6, .int .i32 a7] := by simp only [HE, ha0, ha1, ha2, ha3, ha4, ha5, ha6, ha7]
      have r1 : wr.rangeAt g (j * 8) [.int .i32 a0, .int .i32 a1, .int .i32 a2, .int .i32 a3, .int .i32 a4, .int .i32 a5, .int .i32 a6, .int .i32 a7] := fun i v hv => by have h := h2 j _ hx i v (by rw [hC]; exact hv); rw [Addr.add_mid, Nat.zero_add] at h; exact h
      have r2 : wr.rangeAt g' (j * 8) [.int .i32 a0, .int .i32 a1, .int .i32 a2, .int .i32 a3, .int .i32 a4, .int .i32 a5, .int .i32 a6, .int .i32 a7] := fun i v hv => by have h := h2' j _ hx i v (by rw [hC]; exact hv); rw [Addr.add_mid, Nat.zero_add] at h; exact h
      have hb2 : Hid (Below w.heap.size w wr.drew) := Lib.hid ⟨hB.out.os, hB.out.tape, hB.out.output, hB.out.size, hB.out.block⟩
      clear h2 h2' hx
      go_upto_region 6 with fail
      refine wp_region_held_drew (S := fun w' => w'.rangeAt g (j * 8) [.int .i32 a0, .int .i32 a1, .int .i32 a2, .int .i32 a3, .int .i32 a4, .int .i32 a5, .int .i32 a6, .int .i32 a7] ∧ w'.rangeAt g' (j * 8) [.int .i32 a0, .int .i32 a1, .int .i32 a2, .int .i32 a3, .int .i32 a4, .int .i32 a5, .int .i32 a6, .int .i32 a7]) (by kernel_rfl) ⟨r1, r2⟩ (fun hH => ?_)
      refine wpAnyH_take (i := 0) (v := .slice (some ⟨g, 0, none⟩) n c) rfl (by kernel_rfl) (by kernel_rfl) (by kernel_rfl) (fun _ _ _ h => h) (Or.inl ⟨by rfl, fun w h => by go_simp⟩) hH ?_
      try simp only [Act.put, List.getElem_toArray, List.getElem_cons_zero, List.getElem_cons_succ, List.setIfInBounds_toArray, List.set_cons_zero, List.set_cons_succ]
      refine wpAnyH_take (i := 1) (v := .int .i64 (j : Int)) rfl (by kernel_rfl) (by kernel_rfl) (by kernel_rfl) (fun _ _ _ h => h) (Or.inl ⟨by rfl, fun w h => by go_simp⟩) hH ?_
      try simp only [Act.put, List.getElem_toArray, List.getElem_cons_zero, List.getElem_cons_succ, List.setIfInBounds_toArray, List.set_cons_zero, List.set_cons_succ]
      refine wpAnyH_take (i := 2) (v := .pointer (some ⟨g, j * 8, none⟩)) rfl (by kernel_rfl) (by kernel_rfl) (by kernel_rfl) (fun _ _ _ h => h) (Or.inl ⟨by rfl, fun w h => by go_simp⟩) hH ?_
      try simp only [Act.put, List.getElem_toArray, List.getElem_cons_zero, List.getElem_cons_succ, List.setIfInBounds_toArray, List.set_cons_zero, List.set_cons_succ]
      refine wpAnyH_take (i := 3) rfl (by kernel_rfl) (by kernel_rfl) (by kernel_rfl) (fun _ _ _ h => h) (yieldsIf_load_mid (by rfl) _ _ rfl g (j * 8) rfl [.int .i32 a0, .int .i32 a1, .int .i32 a2, .int .i32 a3, .int .i32 a4, .int .i32 a5, .int .i32 a6, .int .i32 a7] _ (fun w h => h.1) heap_type (by rfl) heap_size) hH ?_
      try simp only [Act.put, List.getElem_toArray, List.getElem_cons_zero, List.getElem_cons_succ, List.setIfInBounds_toArray, List.set_cons_zero, List.set_cons_succ]
      refine wpAnyH_take (i := 4) (v := .slice (some ⟨g', 0, none⟩) n c') rfl (by kernel_rfl) (by kernel_rfl) (by kernel_rfl) (fun _ _ _ h => h) (Or.inl ⟨by rfl, fun w h => by go_simp⟩) hH ?_
      try simp only [Act.put, List.getElem_toArray, List.getElem_cons_zero, List.getElem_cons_succ, List.setIfInBounds_toArray, List.set_cons_zero, List.set_cons_succ]
      refine wpAnyH_take (i := 5) (v := .int .i64 (j : Int)) rfl (by kernel_rfl) (by kernel_rfl) (by kernel_rfl) (fun _ _ _ h => h) (Or.inl ⟨by rfl, fun w h => by go_simp⟩) hH ?_
      try simp only [Act.put, List.getElem_toArray, List.getElem_cons_zero, List.getElem_cons_succ, List.setIfInBounds_toArray, List.set_cons_zero, List.set_cons_succ]
      refine wpAnyH_take (i := 6) (v := .pointer (some ⟨g', j * 8, none⟩)) rfl (by kernel_rfl) (by kernel_rfl) (by kernel_rfl) (fun _ _ _ h => h) (Or.inl ⟨by rfl, fun w h => by go_simp⟩) hH ?_
      try simp only [Act.put, List.getElem_toArray, List.getElem_cons_zero, List.getElem_cons_succ, List.setIfInBounds_toArray, List.set_cons_zero, List.set_cons_succ]
      refine wpAnyH_take (i := 7) rfl (by kernel_rfl) (by kernel_rfl) (by kernel_rfl) (fun _ _ _ h => h) (yieldsIf_load_mid (by rfl) _ _ rfl g' (j * 8) rfl [.int .i32 a0, .int .i32 a1, .int .i32 a2, .int .i32 a3, .int .i32 a4, .int .i32 a5, .int .i32 a6, .int .i32 a7] _ (fun w h => h.2) heap_type (by rfl) heap_size) hH ?_
      try simp only [Act.put, List.getElem_toArray, List.getElem_cons_zero, List.getElem_cons_succ, List.setIfInBounds_toArray, List.set_cons_zero, List.set_cons_succ]
      refine wpAnyH_take (i := 8) (v := .bool false) rfl (by kernel_rfl) (by kernel_rfl) (by kernel_rfl) (fun _ _ _ h => h) (Or.inl ⟨by rfl, fun w h => by go_simp; rw [eqHp 9998 a0 a1 a2 a3 a4 a5 a6 a7]; rfl⟩) hH ?_
      try simp only [Act.put, List.getElem_toArray, List.getElem_cons_zero, List.getElem_cons_succ, List.setIfInBounds_toArray, List.set_cons_zero, List.set_cons_succ]
      refine wpAnyH_done (by kernel_rfl) ?_ _
      go_wp2_with fail
      go_roundw
      case rel => exact ⟨j + 1, by omega, by go_num, hb2⟩
      case measure => simp [intOf]; omega
    · have hni : ¬ (j : Int) < (n : Int) := by omega
      go_wp2_with fail
      go_ret
      exact ⟨rfl, hB.out⟩
set_option maxRecDepth 100000 in
set_option maxHeartbeats 1000000 in
theorem sameFleeces_true (A A' : Option Addr) (n c c' : Nat) (xs : List (Int × List Int)) (w : World) (R : Rds w A n 9 FlC xs) (R' : Rds w A' n 9 FlC xs) (hA : n = 0 ∨ ∃ g, A = some ⟨g, 0, none⟩) (hA' : n = 0 ∨ ∃ g, A' = some ⟨g, 0, none⟩) (h8 : Hid (∀ x ∈ xs, x.2.length = 8)) :
    Calls Tryz.prog 17 #[.slice A n c, .slice A' n c'] w fun e w' => e = .returned (.bool true) ∧ Below w.heap.size w w' := by
  have hn := R.2.1
  have hnl := R.1
  go_enter Tryz.func17, Tryz.ntmps17
  go_wp2_with fail
  go_loopw [5] (fun v wr => ∃ k : Nat, k ≤ n ∧ v = .int .i64 k ∧ Hid (Below w.heap.size w wr)) (fun v _ => n - (intOf v).toNat)
  case atStart => exact ⟨0, by omega, rfl, Lib.hid (Below.refl _ _)⟩
  case round =>
    obtain ⟨j, hj, rfl, hB⟩ := hrel
    by_cases hlt : j < n
    · as_aux_lemma =>
      obtain ⟨ad, h1, h2⟩ := (R.below hB.out).2.2 (by omega)
      obtain ⟨ad', h1', h2'⟩ := (R'.below hB.out).2.2 (by omega)
      obtain ⟨g, hg⟩ := hA.resolve_left (by omega)
      obtain ⟨g', hg'⟩ := hA'.resolve_left (by omega)
      rw [hg] at h1
      rw [hg'] at h1'
      cases h1
      cases h1'
      subst hg
      subst hg'
      obtain ⟨x, hx⟩ : ∃ x, xs[j]? = some x := ⟨_, List.getElem?_eq_getElem (by omega)⟩
      have hm := h8.out x (List.mem_of_getElem? hx)
      obtain ⟨f, L⟩ := x
      obtain ⟨a0, a1, a2, a3, a4, a5, a6, a7, rfl⟩ := eight_of (L := L) hm
      have hC : FlC (f, [a0, a1, a2, a3, a4, a5, a6, a7]) = [.int .i8 f, .int .i32 a0, .int .i32 a1, .int .i32 a2, .int .i32 a3, .int .i32 a4, .int .i32 a5, .int .i32 a6, .int .i32 a7] := rfl
      have r1 : wr.rangeAt g (j * 9) [.int .i8 f, .int .i32 a0, .int .i32 a1, .int .i32 a2, .int .i32 a3, .int .i32 a4, .int .i32 a5, .int .i32 a6, .int .i32 a7] := fun i v hv => by have h := h2 j _ hx i v (by rw [hC]; exact hv); rw [Addr.add_mid, Nat.zero_add] at h; exact h
      have r2 : wr.rangeAt g' (j * 9) [.int .i8 f, .int .i32 a0, .int .i32 a1, .int .i32 a2, .int .i32 a3, .int .i32 a4, .int .i32 a5, .int .i32 a6, .int .i32 a7] := fun i v hv => by have h := h2' j _ hx i v (by rw [hC]; exact hv); rw [Addr.add_mid, Nat.zero_add] at h; exact h
      have hb2 : Hid (Below w.heap.size w wr.drew) := Lib.hid ⟨hB.out.os, hB.out.tape, hB.out.output, hB.out.size, hB.out.block⟩
      clear h2 h2' hx
      go_upto_region 6 with fail
      refine wp_region_held_drew (S := fun w' => w'.rangeAt g (j * 9) [.int .i8 f, .int .i32 a0, .int .i32 a1, .int .i32 a2, .int .i32 a3, .int .i32 a4, .int .i32 a5, .int .i32 a6, .int .i32 a7] ∧ w'.rangeAt g' (j * 9) [.int .i8 f, .int .i32 a0, .int .i32 a1, .int .i32 a2, .int .i32 a3, .int .i32 a4, .int .i32 a5, .int .i32 a6, .int .i32 a7]) (by kernel_rfl) ⟨r1, r2⟩ (fun hH => ?_)
      refine wpAnyH_take (i := 0) (v := .slice (some ⟨g, 0, none⟩) n c) rfl (by kernel_rfl) (by kernel_rfl) (by kernel_rfl) (fun _ _ _ h => h) (Or.inl ⟨by rfl, fun w h => by go_simp⟩) hH ?_
      try simp only [Act.put, List.getElem_toArray, List.getElem_cons_zero, List.getElem_cons_succ, List.setIfInBounds_toArray, List.set_cons_zero, List.set_cons_succ]
      refine wpAnyH_take (i := 1) (v := .int .i64 (j : Int)) rfl (by kernel_rfl) (by kernel_rfl) (by kernel_rfl) (fun _ _ _ h => h) (Or.inl ⟨by rfl, fun w h => by go_simp⟩) hH ?_
      try simp only [Act.put, List.getElem_toArray, List.getElem_cons_zero, List.getElem_cons_succ, List.setIfInBounds_toArray, List.set_cons_zero, List.set_cons_succ]
      refine wpAnyH_take (i := 2) (v := .pointer (some ⟨g, j * 9, none⟩)) rfl (by kernel_rfl) (by kernel_rfl) (by kernel_rfl) (fun _ _ _ h => h) (Or.inl ⟨by rfl, fun w h => by go_simp⟩) hH ?_
      try simp only [Act.put, List.getElem_toArray, List.getElem_cons_zero, List.getElem_cons_succ, List.setIfInBounds_toArray, List.set_cons_zero, List.set_cons_succ]
      refine wpAnyH_take (i := 3) rfl (by kernel_rfl) (by kernel_rfl) (by kernel_rfl) (fun _ _ _ h => h) (yieldsIf_load_mid (by rfl) _ _ rfl g (j * 9) rfl [.int .i8 f, .int .i32 a0, .int .i32 a1, .int .i32 a2, .int .i32 a3, .int .i32 a4, .int .i32 a5, .int .i32 a6, .int .i32 a7] _ (fun w h => h.1) Tryz.underlying58 (by rfl) flw_size) hH ?_
      try simp only [Act.put, List.getElem_toArray, List.getElem_cons_zero, List.getElem_cons_succ, List.setIfInBounds_toArray, List.set_cons_zero, List.set_cons_succ]
      refine wpAnyH_take (i := 4) (v := .slice (some ⟨g', 0, none⟩) n c') rfl (by kernel_rfl) (by kernel_rfl) (by kernel_rfl) (fun _ _ _ h => h) (Or.inl ⟨by rfl, fun w h => by go_simp⟩) hH ?_
      try simp only [Act.put, List.getElem_toArray, List.getElem_cons_zero, List.getElem_cons_succ, List.setIfInBounds_toArray, List.set_cons_zero, List.set_cons_succ]
      refine wpAnyH_take (i := 5) (v := .int .i64 (j : Int)) rfl (by kernel_rfl) (by kernel_rfl) (by kernel_rfl) (fun _ _ _ h => h) (Or.inl ⟨by rfl, fun w h => by go_simp⟩) hH ?_
      try simp only [Act.put, List.getElem_toArray, List.getElem_cons_zero, List.getElem_cons_succ, List.setIfInBounds_toArray, List.set_cons_zero, List.set_cons_succ]
      refine wpAnyH_take (i := 6) (v := .pointer (some ⟨g', j * 9, none⟩)) rfl (by kernel_rfl) (by kernel_rfl) (by kernel_rfl) (fun _ _ _ h => h) (Or.inl ⟨by rfl, fun w h => by go_simp⟩) hH ?_
      try simp only [Act.put, List.getElem_toArray, List.getElem_cons_zero, List.getElem_cons_succ, List.setIfInBounds_toArray, List.set_cons_zero, List.set_cons_succ]
      refine wpAnyH_take (i := 7) rfl (by kernel_rfl) (by kernel_rfl) (by kernel_rfl) (fun _ _ _ h => h) (yieldsIf_load_mid (by rfl) _ _ rfl g' (j * 9) rfl [.int .i8 f, .int .i32 a0, .int .i32 a1, .int .i32 a2, .int .i32 a3, .int .i32 a4, .int .i32 a5, .int .i32 a6, .int .i32 a7] _ (fun w h => h.2) Tryz.underlying58 (by rfl) flw_size) hH ?_
      try simp only [Act.put, List.getElem_toArray, List.getElem_cons_zero, List.getElem_cons_succ, List.setIfInBounds_toArray, List.set_cons_zero, List.set_cons_succ]
      refine wpAnyH_take (i := 8) (v := .bool false) rfl (by kernel_rfl) (by kernel_rfl) (by kernel_rfl) (fun _ _ _ h => h) (Or.inl ⟨by rfl, fun w h => by go_simp; rw [eqHp 9997 a0 a1 a2 a3 a4 a5 a6 a7]; rfl⟩) hH ?_
      try simp only [Act.put, List.getElem_toArray, List.getElem_cons_zero, List.getElem_cons_succ, List.setIfInBounds_toArray, List.set_cons_zero, List.set_cons_succ]
      refine wpAnyH_done (by kernel_rfl) ?_ _
      go_wp2_with fail
      go_roundw
      case rel => exact ⟨j + 1, by omega, by go_num, hb2⟩
      case measure => simp [intOf]; omega
    · have hni : ¬ (j : Int) < (n : Int) := by omega
      go_wp2_with fail
      go_ret
      exact ⟨rfl, hB.out⟩
theorem l00SameT (A A' : Option Addr) (n c c' : Nat) (xs : List Int) (w : World) (R : Rds w A n 1 (fun x : Int => [.int .i64 x]) xs) (R' : Rds w A' n 1 (fun x : Int => [.int .i64 x]) xs) :
    Calls Tryz.prog 62 #[.slice A n c, .slice A' n c'] w fun e w' => e = .returned (.bool true) ∧ Below w.heap.size w w' := by
  have hn := R.2.1
  go_enter Tryz.func62, Tryz.ntmps62
  go_wp2_with fail
  go_loopw [5] (fun v wr => ∃ k : Nat, k ≤ n ∧ v = .int .i64 k ∧ Below w.heap.size w wr) (fun v _ => n - (intOf v).toNat)
  case atStart => exact ⟨0, by omega, rfl, Below.refl _ _⟩
  case round =>
    obtain ⟨j, hj, rfl, hB⟩ := hrel
    by_cases hlt : j < n
    · obtain ⟨ad, x, rfl, hx, e0⟩ := (R.below hB).at1 hlt
      obtain ⟨ad_, y, rfl, hy, d0⟩ := (R'.below hB).at1 hlt
      rw [hx] at hy
      cases hy
      clear hx
      go_wp2_with fail
      go_region
      all_goals go_wp2_with fail
      all_goals go_roundw
      case rel => exact ⟨j + 1, by omega, by go_num, hB.drew⟩
      case measure => simp [intOf]; omega
    · go_wp2_with fail
      go_ret
      exact ⟨rfl, hB⟩
theorem sameNumbersT (A A' : Option Addr) (n c c' : Nat) (xs : List Int) (w : World) (R : Rds w A n 1 (fun x : Int => [.int .i64 x]) xs) (R' : Rds w A' n 1 (fun x : Int => [.int .i64 x]) xs) :
    Calls Tryz.prog 32 #[.slice A n c, .slice A' n c'] w fun e w' => e = .returned (.bool true) ∧ Below w.heap.size w w' := by
  go_enter Tryz.func32, Tryz.ntmps32
  go_wp2_with fail
  refine (l00SameT A A' n c c' xs w R R').mono ?_
  rintro e w1 ⟨rfl, hb⟩
  go_wp2_with fail
  go_ret
  exact ⟨rfl, hb⟩
end Go.Proofs.YtbkhlcbnnjgdpaaGreatDoor
