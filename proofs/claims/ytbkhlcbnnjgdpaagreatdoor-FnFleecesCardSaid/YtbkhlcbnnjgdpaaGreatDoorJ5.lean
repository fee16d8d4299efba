/- Contracts: strings.Lines and its iterator, which keeps what is left of the text in a variable of its own. -/
import Derived.Test.YtbkhlcbnnjgdpaaGreatDoorJ4
import Derived.Test.YtbkhlcbnnjgdpaaGreatDoorI1
import Derived.Test.YtbkhlcbnnjgdpaaGreatDoorO4
import Derived.RangeFuncBox
import Derived.RangeFuncCalls
import Derived.RangeFuncLeaves
import Derived.Shelf.Abstract
import Derived.Shelf.RegionOpen
import Derived.OwnWalkIn
import Derived.TacticsInMore
import Derived.LoopNIn
import Derived.LoopIn
import Derived.Maps.AppendAt
namespace Go.Proofs.YtbkhlcbnnjgdpaaGreatDoor
open Go.RowKit
set_option linter.unusedVariables false
set_option linter.unusedSimpArgs false
attribute [local go_sem] Oper.semAt_some
def lnB (s : ByteArray) : List ByteArray := (lns s.data.toList).map btx
def leftOf (w : World) (b : Nat) : Nat := match w.cell? ⟨b, 0, none⟩ with
  | some (.string r) => r.size
  | _ => 0
theorem grown_own (w : World) (b : Nat) (v : Value) : w.grownBy (w.setCell ⟨b, 0, none⟩ v) (some b) := grownBy_setCell' w b v
theorem _root_.Go.World.grownBy.drew' {w w1 : World} {row : Option Nat} (h : w.grownBy w1 row) : w.grownBy w1.drew row := ⟨h.os, h.tape, h.output, h.size, h.block⟩
theorem lines_any (s : ByteArray) (w : World) : Calls Tryz.prog 45 #[.string s] w fun e w' => e = .returned (.func (.func 64) #[] #[.pointer (some ⟨w.heap.size, 0, none⟩)]) ∧ w' = w.alloc (.cells #[.string s] 9) := by
  go_enter Tryz.func45, Tryz.ntmps45
  go_wp2_with fail
  go_ret
  exact ⟨rfl, rfl⟩
set_option maxRecDepth 100000 in
set_option maxHeartbeats 2000000 in
theorem lines1_in (m l bs : Nat) (s : ByteArray) (hs : s.size ≤ 1048576) (J Jx : List ByteArray → World → Prop) (hJ : Hid (OnVar bs J)) (hJx : Hid (OnVar bs Jx))
    (hY : ∀ pre x A, J pre A → (pre ++ [x]) <+: lnB s → YieldAt Fence.wide (m - 1) Tryz.prog l #[.string x] A fun e B =>
      (e = .returned (.bool true) ∧ J (pre ++ [x]) B ∧ B.heap[bs]? = A.heap[bs]?) ∨ (e = .returned (.bool false) ∧ Jx (pre ++ [x]) B))
    (W : World) (hb : Boxed W bs 9 (.string s)) (h0 : J [] W) :
    CallsIn Fence.wide m Tryz.prog 64 #[.func (.yield l) #[] #[], .pointer (some ⟨bs, 0, none⟩)] W fun e B => (∃ v, e = .returned v) ∧ ((∃ xs, xs = lnB s ∧ J xs B) ∨ (∃ pre, pre <+: lnB s ∧ Jx pre B)) := by
  have HY := Lib.hid hY
  clear hY
  refine callsIn_of_wp Tryz.func64 rfl trivial ?_ rfl
  simp only [Tryz.ntmps64, List.size_toArray, List.length_cons, List.length_nil, Nat.reduceAdd, Nat.reduceSub, Array.replicate_succ, Array.replicate_zero, List.push_toArray, List.append_toArray, List.nil_append, List.cons_append]
  gi_wp2
  gi_loopw [4] (fun _ wr => ∃ (pre : List ByteArray) (r : ByteArray), Hid (Boxed wr bs 9 (.string r)) ∧ Hid (lnB s = pre ++ lnB r) ∧ r.size ≤ s.size ∧ Hid (J pre wr)) (fun _ wr => leftOf wr bs)
  case atStart => exact ⟨[], s, Lib.hid hb, Lib.hid rfl, Nat.le_refl _, Lib.hid h0⟩
  case round =>
    clear hb h0
    obtain ⟨pre, r, HB, HL, hrs, HJ⟩ := hrel
    have hc := HB.out.cell
    by_cases h0 : r.size = 0
    · have hni : ¬ (0 : Int) < (r.size : Int) := by omega
      gi_wp2
      go_end0
      exact ⟨⟨_, rfl⟩, .inl (by rw [HL.out, str_nil h0]; simpa [lnB, lns] using HJ.out)⟩
    · have hpi : (0 : Int) < (r.size : Int) := by omega
      have hmx : Tryz.prog.follows .mixedOrders = true := by kernel_rfl
      have hf := HB.out.frozen
      have hge := Lib.indexByte_ge r.data.toList 10
      rcases Int.lt_or_eq_of_le hge with h1 | h1
      · obtain ⟨i, hi⟩ : ∃ i : Nat, Lib.indexByte r.data.toList 10 = i := ⟨(Lib.indexByte r.data.toList 10).toNat, by omega⟩
        obtain ⟨hn, hil⟩ := lns_next hi
        rw [str_len] at hil
        have HN := Lib.hid hn
        have HIX : Hid (∀ (n : Nat), CallsIn Fence.wide n Tryz.prog 65 #[.string r, .int .u8 10] wr fun e w' => e = .returned (.int .i64 (i : Int)) ∧ w' = wr) := Lib.hid (fun n => callsIn_wide.2 ((Tryz.strings_IndexByte r 10 wr).mono (fun e w' h => by rw [show ((10 : Int).toNat.toUInt8) = (10 : UInt8) from rfl, hi] at h; exact h)))
        have v1 : IntKind.i64.wrap ((i : Int) + 1) = (i : Int) + 1 := IntWalk.i64_in _ (by omega)
        have hi0 : ¬ (i : Int) < 0 := by omega
        have hi1 : ((i : Int) + 1) ≤ (r.size : Int) := by omega
        clear hi hge h1 hn
        gi_wp2
        refine ⟨trivial, fun h => (by cases h), (HIX.out _).mono ?_⟩
        rintro e w' ⟨rfl, rfl⟩
        gi_wp2
        gi_region
        have hJA : J pre ((w'.setCell ⟨bs, 0, none⟩ (.string (r.extract (i + 1) r.size))).drew) := hJ.out _ _ _ HJ.out (grown_own w' bs _).drew'
        have hBA : Boxed ((w'.setCell ⟨bs, 0, none⟩ (.string (r.extract (i + 1) r.size))).drew) bs 9 (.string (r.extract (i + 1) r.size)) := HB.out.set _
        have hLN : lnB r = r.extract 0 (i + 1) :: lnB (r.extract (i + 1) r.size) := by
          have e1 : r.extract 0 (i + 1) = btx (r.data.toList.take (i + 1)) := btx_of (by rw [Lib.extract_data]; simp)
          have e2 : (r.extract (i + 1) r.size).data.toList = r.data.toList.drop (i + 1) := Lib.extract_to_end r (i + 1)
          unfold lnB
          rw [HN.out, List.map_cons, ← e1, e2]
        have hpre : (pre ++ [r.extract 0 (i + 1)]) <+: lnB s := ⟨lnB (r.extract (i + 1) r.size), by rw [HL.out, hLN]; simp⟩
        have HPRE := Lib.hid hpre
        have HL2 : Hid (lnB s = (pre ++ [r.extract 0 (i + 1)]) ++ lnB (r.extract (i + 1) r.size)) := Lib.hid (by rw [HL.out, hLN]; simp)
        have hsz : (r.extract (i + 1) r.size).size = r.size - (i + 1) := by rw [ByteArray.size_extract]; omega
        obtain ⟨x, hx⟩ : ∃ x, x = r.extract 0 (i + 1) := ⟨_, rfl⟩
        obtain ⟨y, hy0⟩ : ∃ y, y = r.extract (i + 1) r.size := ⟨_, rfl⟩
        obtain ⟨A, hA⟩ : ∃ A, A = (w'.setCell ⟨bs, 0, none⟩ (.string (r.extract (i + 1) r.size))).drew := ⟨_, rfl⟩
        rw [← hA] at hJA hBA ⊢
        simp only [← hx, ← hy0] at hpre HPRE HL2 hBA hsz ⊢
        obtain ⟨fn, tmps, assign, body, hy, hR⟩ := HY.out pre x A hJA hpre
        have hcA := hBA.cell
        have HBA := Lib.hid hBA
        have hcw := Lib.hid hc
        clear hJA hBA hLN hpre hA hx hy0 HN HIX hc hf v1 hi0 hi1 hpi hmx
        gi_wp2
        refine ⟨fun h => (by cases h), hR.mono ?_⟩
        rintro e B (⟨rfl, hJ3, hk3⟩ | ⟨rfl, hJx3⟩)
        · have hBB : Boxed B bs 9 (.string y) := hk3.trans HBA.out
          have hcB := Lib.hid hBB.cell
          clear hcA
          gi_wp2
          go_roundw
          case rel => exact ⟨pre ++ [x], y, Lib.hid hBB, HL2, by omega, Lib.hid hJ3⟩
          case measure =>
            unfold leftOf
            rw [hcB.out, hcw.out]
            show y.size < r.size
            omega
        · clear hcA
          gi_wp2
          refine bodyPost_ret (results_none rfl _ _ _) rfl ?_
          exact ⟨⟨_, rfl⟩, .inr ⟨pre ++ [x], HPRE.out, hJx3⟩⟩
      · have hn := lns_last h1.symm (fun e => h0 (by rw [← str_len, e]; rfl))
        have HIX : Hid (∀ (n : Nat), CallsIn Fence.wide n Tryz.prog 65 #[.string r, .int .u8 10] wr fun e w' => e = .returned (.int .i64 (-1)) ∧ w' = wr) := Lib.hid (fun n => callsIn_wide.2 ((Tryz.strings_IndexByte r 10 wr).mono (fun e w' h => by rw [show ((10 : Int).toNat.toUInt8) = (10 : UInt8) from rfl, ← h1] at h; exact h)))
        have hJA : J pre (wr.setCell ⟨bs, 0, none⟩ (.string ⟨#[]⟩)) := hJ.out _ _ _ HJ.out (grown_own wr bs _)
        have hBA : Boxed (wr.setCell ⟨bs, 0, none⟩ (.string ⟨#[]⟩)) bs 9 (.string ⟨#[]⟩) := HB.out.set _
        have hLN : lnB r = [r] := by unfold lnB; rw [hn, List.map_cons, btx_data]; rfl
        have hpre : (pre ++ [r]) <+: lnB s := ⟨[], by rw [HL.out, hLN]; simp⟩
        have HPRE := Lib.hid hpre
        have HL2 : Hid (lnB s = (pre ++ [r]) ++ lnB ⟨#[]⟩) := Lib.hid (by rw [HL.out, hLN]; simp [lnB, lns])
        obtain ⟨fn, tmps, assign, body, hy, hR⟩ := HY.out pre r _ hJA hpre
        have HBA := Lib.hid hBA
        have hcw := Lib.hid hc
        clear hJA hBA hLN hpre hn hge h1
        gi_wp2
        refine ⟨trivial, fun h => (by cases h), (HIX.out _).mono ?_⟩
        rintro e w' ⟨rfl, rfl⟩
        gi_wp2
        refine ⟨fun h => (by cases h), hR.mono ?_⟩
        rintro e B (⟨rfl, hJ3, hk3⟩ | ⟨rfl, hJx3⟩)
        · have hBB : Boxed B bs 9 (.string ⟨#[]⟩) := hk3.trans HBA.out
          have hcB := Lib.hid hBB.cell
          clear hc hf hy
          gi_wp2
          go_roundw
          case rel => exact ⟨pre ++ [r], ⟨#[]⟩, Lib.hid hBB, HL2, Nat.zero_le _, Lib.hid hJ3⟩
          case measure =>
            unfold leftOf
            rw [hcB.out, hcw.out]
            show 0 < r.size
            omega
        · clear hc hf hy
          gi_wp2
          refine bodyPost_ret (results_none rfl _ _ _) rfl ?_
          exact ⟨⟨_, rfl⟩, .inr ⟨pre ++ [r], HPRE.out, hJx3⟩⟩
end Go.Proofs.YtbkhlcbnnjgdpaaGreatDoor
