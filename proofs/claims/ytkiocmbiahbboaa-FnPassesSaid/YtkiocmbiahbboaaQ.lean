/- Facts of the whole program of this seat: its head, and what the head's words say. -/
import Derived.Test.YtkiocmbiahbboaaProg
import Derived.JoinedOf
import Derived.KernelRfl
namespace Go.Proofs.Ytkiocmbiahbboaa
def headCodes : List Nat := [104, 97, 114, 110, 101, 115, 115, 32, 52, 54, 53, 97, 52, 98, 57, 49, 55, 98, 54, 100, 50, 98, 54, 50, 100, 97, 97, 100, 101, 97, 54, 52, 97, 100, 54, 100, 56, 55, 99, 56, 50, 102, 49, 97, 50, 56, 102, 102, 50, 101, 53, 97, 55, 100, 56, 51, 48, 50, 100, 102, 98, 57, 56, 53, 50, 50, 54, 97, 48, 57, 51, 52, 32, 99, 117, 116, 32, 97, 116, 32, 108, 111, 111, 112, 46, 101, 120, 97, 109, 112, 108, 101, 47, 103, 48, 49, 51, 56, 52, 47, 108, 97, 119, 115, 46, 70, 110, 69, 120, 97, 99, 116, 69, 118, 101, 110, 101, 115, 116, 80, 97, 115, 115, 101, 115, 32, 108, 111, 111, 112, 46, 101, 120, 97, 109, 112, 108, 101, 47, 103, 48, 49, 51, 56, 52, 47, 108, 97, 119, 115, 46, 70, 110, 69, 120, 97, 99, 116, 70, 101, 119, 101, 115, 116, 80, 97, 115, 115, 101, 115, 32, 108, 111, 111, 112, 46, 101, 120, 97, 109, 112, 108, 101, 47, 103, 48, 49, 51, 56, 52, 47, 108, 97, 119, 115, 46, 70, 110, 80, 97, 115, 115, 101, 115]
theorem head_lit : Try.prog.initOrder = "harness 465a4b917b6d2b62daadea64ad6d87c82f1a28ff2e5a7d8302dfb985226a0934 cut at loop.example/g01384/laws.FnExactEvenestPasses loop.example/g01384/laws.FnExactFewestPasses loop.example/g01384/laws.FnPasses" := by kernel_rfl
theorem head_is : Try.prog.initOrder = String.ofList (List.map Char.ofNat headCodes) := head_lit.trans (by kernel_rfl)
theorem head_list : Try.prog.initOrder.toList = List.map Char.ofNat headCodes := by rw [head_is, String.toList_ofList]
theorem ws_one (a r : List Char) (h : a.all (fun c => c != Char.ofNat 32) = true) : wordsSigns (a ++ Char.ofNat 32 :: r) = a :: wordsSigns r := by
  induction a with
  | nil => rfl
  | cons c a ih =>
    simp only [List.all_cons, Bool.and_eq_true, bne_iff_ne, ne_eq] at h
    rw [List.cons_append]
    conv => lhs; unfold wordsSigns
    split
    · rename_i h1; cases h1
    · rename_i h1; simp only [List.cons.injEq] at h1; exact absurd h1.1 h.1
    · rename_i c' r' _ h1
      simp only [List.cons.injEq] at h1
      obtain ⟨rfl, rfl⟩ := h1
      rw [ih h.2]
def w1Codes : List Nat := [104, 97, 114, 110, 101, 115, 115]
def w2Codes : List Nat := [52, 54, 53, 97, 52, 98, 57, 49, 55, 98, 54, 100, 50, 98, 54, 50, 100, 97, 97, 100, 101, 97, 54, 52, 97, 100, 54, 100, 56, 55, 99, 56, 50, 102, 49, 97, 50, 56, 102, 102, 50, 101, 53, 97, 55, 100, 56, 51, 48, 50, 100, 102, 98, 57, 56, 53, 50, 50, 54, 97, 48, 57, 51, 52]
def w3Codes : List Nat := [99, 117, 116]
def restCodes : List Nat := [97, 116, 32, 108, 111, 111, 112, 46, 101, 120, 97, 109, 112, 108, 101, 47, 103, 48, 49, 51, 56, 52, 47, 108, 97, 119, 115, 46, 70, 110, 69, 120, 97, 99, 116, 69, 118, 101, 110, 101, 115, 116, 80, 97, 115, 115, 101, 115, 32, 108, 111, 111, 112, 46, 101, 120, 97, 109, 112, 108, 101, 47, 103, 48, 49, 51, 56, 52, 47, 108, 97, 119, 115, 46, 70, 110, 69, 120, 97, 99, 116, 70, 101, 119, 101, 115, 116, 80, 97, 115, 115, 101, 115, 32, 108, 111, 111, 112, 46, 101, 120, 97, 109, 112, 108, 101, 47, 103, 48, 49, 51, 56, 52, 47, 108, 97, 119, 115, 46, 70, 110, 80, 97, 115, 115, 101, 115]
theorem head_cut : List.map Char.ofNat headCodes = List.map Char.ofNat w1Codes ++ Char.ofNat 32 :: (List.map Char.ofNat w2Codes ++ Char.ofNat 32 :: (List.map Char.ofNat w3Codes ++ Char.ofNat 32 :: List.map Char.ofNat restCodes)) := by kernel_rfl
theorem w3_is : List.map Char.ofNat w3Codes = "cut".toList := by kernel_rfl
theorem head_words : ∃ rest, behindMainWord (wordsSigns Try.prog.initOrder.toList) = "cut".toList :: rest := by
  refine ⟨wordsSigns (List.map Char.ofNat restCodes), ?_⟩
  rw [head_list, head_cut, ws_one _ _ (by kernel_rfl), ws_one _ _ (by kernel_rfl), ws_one _ _ (by kernel_rfl), w3_is]
  unfold behindMainWord
  dsimp only
  rw [if_pos (by kernel_rfl)]
theorem strip_cut (rest : List (List Char)) : stripLifts liftWords ("cut".toList :: rest) = ([], "cut".toList :: rest) := by
  unfold liftWords
  repeat (rw [stripLifts, if_neg (by decide +kernel)])
  rfl
theorem q_later : Try.prog.laysLater = false := by kernel_rfl
theorem q_reflect : Try.prog.bearsReflect = false := by kernel_rfl
theorem q_door : Try.prog.doorFits [] = true := by kernel_rfl
theorem enter_of {P : Program} {rest : List (List Char)} (h : behindMainWord (wordsSigns P.initOrder.toList) = "cut".toList :: rest) (h1 : P.laysLater = false) (h2 : P.bearsReflect = false) (h3 : P.doorFits [] = true) : P.mayEnter = true := by
  unfold Program.mayEnter
  simp only [h, strip_cut, h1, h2, h3]
  simp
theorem headLifts_of {P : Program} {rest : List (List Char)} (h : behindMainWord (wordsSigns P.initOrder.toList) = "cut".toList :: rest) : P.headLifts = [] := by
  unfold Program.headLifts
  simp only [h, strip_cut]
  simp
theorem lifts_of {P : Program} {rest : List (List Char)} (h : behindMainWord (wordsSigns P.initOrder.toList) = "cut".toList :: rest) : P.liftsFinal = false := by
  unfold Program.liftsFinal
  simp only [h, headLifts_of h]
  simp
theorem make_of {P : Program} {rest : List (List Char)} (h : behindMainWord (wordsSigns P.initOrder.toList) = "cut".toList :: rest) : P.make = some .cut := by
  unfold Program.make
  simp only [h]
  rw [if_neg (by decide +kernel), if_pos (by simp)]
theorem q_enter : Try.prog.mayEnter = true := let ⟨_, h⟩ := head_words; enter_of h q_later q_reflect q_door
theorem q_lifts : Try.prog.liftsFinal = false := let ⟨_, h⟩ := head_words; lifts_of h
theorem q_make : Try.prog.make = some .cut := let ⟨_, h⟩ := head_words; make_of h
end Go.Proofs.Ytkiocmbiahbboaa
