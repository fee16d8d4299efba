/- Plain law: a web's text read by the program and by its words. -/
import Derived.Test.YtbkhlcbnnjgdpaaGreatDoorBq
namespace Go.Proofs.YtbkhlcbnnjgdpaaGreatDoor
open Go.RowKit
set_option linter.unusedVariables false
set_option linter.unusedSimpArgs false
def pok (B : Nat) (w : List UInt8) : Bool := match Lib.parseIntB B w with
  | .ok _ => true
  | _ => false
def pv (B : Nat) (w : List UInt8) : Int := match Lib.parseIntB B w with
  | .ok v => v
  | _ => 0
theorem pok_ok {B : Nat} {w : List UInt8} {v : Int} (h : Lib.parseIntB B w = .ok v) : pok B w = true ∧ pv B w = v := by unfold pok pv; rw [h]; exact ⟨rfl, rfl⟩
theorem pok_syntax {B : Nat} {w : List UInt8} (h : Lib.parseIntB B w = .«syntax») : pok B w = false := by unfold pok; rw [h]
theorem pok_range {B : Nat} {w : List UInt8} (h : Lib.parseIntB B w = .range) : pok B w = false := by unfold pok; rw [h]
def wds (s : ByteArray) : List (List UInt8) := sp 32 s.data.toList
def ivs (s : ByteArray) : List Int := (wds s).map (pv 64)
def iok (s : ByteArray) : Bool := (wds s).all (pok 64) && decide (wtB (ivs s) = s)
def svs (s : ByteArray) : List Int := (wds s).map nvv
def sok (s : ByteArray) : Bool := (wds s).all nok
theorem nok_parse {w : List UInt8} (h : nok w = true) : w = Lib.itoa (nvv w) ∧ pok 64 w = true ∧ pv 64 w = nvv w := by
  cases hn : num w with
  | none => rw [(nok_none hn).1] at h; cases h
  | some n =>
    obtain ⟨h1, h2⟩ := num_some hn
    obtain ⟨_, h3⟩ := nok_some hn
    have hp := parse_dec (B := 64) (n := n) (by omega) (by omega) (by omega)
    rw [← h1] at hp
    obtain ⟨h4, h5⟩ := pok_ok hp
    exact ⟨by rw [h3, Lib.itoa_nonneg, ← h1], h4, by rw [h5, h3]⟩
theorem itoa_num {v : Int} (h0 : 0 ≤ v) (h1 : v < 1000000000) : nok (Lib.itoa v) = true ∧ nvv (Lib.itoa v) = v := by
  obtain ⟨n, rfl⟩ : ∃ n : Nat, v = (n : Int) := ⟨v.toNat, by omega⟩
  rw [Lib.itoa_nonneg]
  exact nok_some (num_dec (by omega))
theorem wt_data (xs : List Int) : (wtB xs).data.toList = Lib.join (xs.map Lib.itoa) [32] := by unfold wtB; simp
theorem itoa_blank {v : Int} (h0 : 0 ≤ v) : (32 : UInt8) ∉ Lib.itoa v := by
  obtain ⟨n, rfl⟩ : ∃ n : Nat, v = (n : Int) := ⟨v.toNat, by omega⟩
  rw [Lib.itoa_nonneg]
  intro hc
  have := blank_dec n 32 hc
  have h32 : (32 : UInt8).toNat = 32 := rfl
  omega
/-- The text of numbers that are not negative, cut again. -/
theorem wds_wt {xs : List Int} (h0 : xs ≠ []) (h : ∀ x ∈ xs, 0 ≤ x) : wds (wtB xs) = xs.map Lib.itoa := by
  unfold wds
  rw [wt_data]
  refine join_sp (by simpa using h0) ?_
  intro w hw
  obtain ⟨x, hx, rfl⟩ := List.mem_map.1 hw
  exact itoa_blank (h x hx)
theorem wt_of {s : ByteArray} {xs : List Int} (h : wds s = xs.map Lib.itoa) : wtB xs = s := by
  apply ByteArray.ext
  have : (wtB xs).data.toList = s.data.toList := by rw [wt_data, ← h]; exact sp_join 32 _
  exact Array.toList_inj.1 this
theorem map_self {α : Type} {l : List α} {f : α → α} (h : ∀ x ∈ l, f x = x) : l.map f = l := by
  have : l.map f = l.map id := List.map_congr_left h
  rw [this, List.map_id]
theorem read_fwd {s : ByteArray} (h1 : iok s = true) (h2 : webOk (ivs s) = true) : sok s = true ∧ svs s = ivs s := by
  unfold iok at h1
  rw [Bool.and_eq_true, decide_eq_true_eq] at h1
  obtain ⟨b1, b2, b3, b4⟩ := webOk_bd h2
  have hb : ∀ x ∈ ivs s, 0 ≤ x ∧ x < 1000000000 := fun x hx => by have := b4 x hx; omega
  have hne : ivs s ≠ [] := fun e => by rw [e] at b1; simp at b1
  have hw : wds s = (ivs s).map Lib.itoa := by
    have := wds_wt hne (fun x hx => (hb x hx).1)
    rw [h1.2] at this
    exact this
  constructor
  · unfold sok
    rw [hw, List.all_eq_true]
    intro w hm
    obtain ⟨x, hx, rfl⟩ := List.mem_map.1 hm
    exact (itoa_num (hb x hx).1 (hb x hx).2).1
  · show (wds s).map nvv = _
    rw [hw, List.map_map]
    exact map_self fun x hx => (itoa_num (hb x hx).1 (hb x hx).2).2
theorem read_back {s : ByteArray} (h1 : sok s = true) : iok s = true ∧ ivs s = svs s := by
  unfold sok at h1
  rw [List.all_eq_true] at h1
  have he : ivs s = svs s := List.map_congr_left fun w hw => (nok_parse (h1 w hw)).2.2
  refine ⟨?_, he⟩
  unfold iok
  rw [Bool.and_eq_true, decide_eq_true_eq, List.all_eq_true]
  refine ⟨fun w hw => (nok_parse (h1 w hw)).2.1, ?_⟩
  rw [he]
  refine wt_of ?_
  unfold svs
  rw [List.map_map]
  exact (map_self fun w hw => (nok_parse (h1 w hw)).1.symm).symm
def rwR (s : ByteArray) : List Int := if (sok s && webOk (svs s)) = true then svs s else []
def rwC (s : ByteArray) : Int := if (sok s && webOk (svs s)) = true then 0 else 5
theorem rw_impl_yes {s : ByteArray} (h1 : iok s = true) (h2 : webOk (ivs s) = true) : rwR s = ivs s ∧ rwC s = 0 := by
  obtain ⟨h3, h4⟩ := read_fwd h1 h2
  have h5 : (sok s && webOk (svs s)) = true := by rw [h3, h4, h2]; rfl
  exact ⟨by unfold rwR; rw [if_pos h5, h4], by unfold rwC; rw [if_pos h5]⟩
theorem rw_impl_no {s : ByteArray} (h : iok s = false ∨ webOk (ivs s) = false) : rwR s = [] ∧ rwC s = 5 := by
  have h5 : ¬ (sok s && webOk (svs s)) = true := by
    intro e
    rw [Bool.and_eq_true] at e
    obtain ⟨h1, h2⟩ := read_back e.1
    rw [h1, h2, e.2] at h
    rcases h with h | h <;> cases h
  exact ⟨by unfold rwR; rw [if_neg h5], by unfold rwC; rw [if_neg h5]⟩
theorem rw_spec_yes {s : ByteArray} (h1 : sok s = true) (h2 : webOk (svs s) = true) : rwR s = svs s ∧ rwC s = 0 := by
  have h5 : (sok s && webOk (svs s)) = true := by rw [h1, h2]; rfl
  exact ⟨by unfold rwR; rw [if_pos h5], by unfold rwC; rw [if_pos h5]⟩
theorem rw_spec_no {s : ByteArray} (h : sok s = false ∨ webOk (svs s) = false) : rwR s = [] ∧ rwC s = 5 := by
  have h5 : ¬ (sok s && webOk (svs s)) = true := by
    intro e
    rw [Bool.and_eq_true] at e
    rw [e.1, e.2] at h
    rcases h with h | h <;> cases h
  exact ⟨by unfold rwR; rw [if_neg h5], by unfold rwC; rw [if_neg h5]⟩
theorem rwR_len (s : ByteArray) : (rwR s).length ≤ 12 := by
  unfold rwR
  split
  · rename_i h
    rw [Bool.and_eq_true] at h
    exact (webOk_bd h.2).2.1
  · simp
end Go.Proofs.YtbkhlcbnnjgdpaaGreatDoor
