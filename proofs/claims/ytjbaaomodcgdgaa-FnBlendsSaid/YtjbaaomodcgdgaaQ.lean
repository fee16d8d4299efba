/- Facts of the whole program of this seat: its head, and what the head's words say. -/
import Derived.Test.YtjbaaomodcgdgaaProg
import Derived.JoinedOf
import Derived.KernelRfl
namespace Go.Proofs.Ytjbaaomodcgdgaa
def headCodes : List Nat := [104, 97, 114, 110, 101, 115, 115, 32, 100, 52, 56, 99, 56, 54, 57, 49, 51, 52, 98, 97, 97, 98, 52, 102, 98, 50, 97, 49, 101, 100, 101, 98, 101, 50, 50, 101, 98, 98, 97, 55, 57, 51, 52, 52, 51, 57, 50, 100, 100, 97, 97, 50, 55, 99, 50, 102, 49, 48, 97, 54, 99, 48, 54, 98, 49, 99, 53, 56, 99, 50, 49, 98, 32, 99, 117, 116, 32, 97, 116, 32, 108, 111, 111, 112, 46, 101, 120, 97, 109, 112, 108, 101, 47, 103, 48, 49, 51, 56, 52, 47, 108, 97, 119, 115, 46, 70, 110, 66, 108, 101, 110, 100, 115]
theorem head_lit : Try.prog.initOrder = "harness d48c869134baab4fb2a1edebe22ebba79344392ddaa27c2f10a6c06b1c58c21b cut at loop.example/g01384/laws.FnBlends" := by kernel_rfl
theorem head_is : Try.prog.initOrder = String.ofList (List.map Char.ofNat headCodes) := head_lit.trans (by kernel_rfl)
theorem head_list : Try.prog.initOrder.toList = List.map Char.ofNat headCodes := by rw [head_is, String.toList_ofList]
theorem ws_one (a r : List Char) (h : a.all (fun c => c != Char.ofNat 32) = true) : wordsSigns (a ++ Char.ofNat 32 :: r) = a :: wordsSigns r := by
  induction a with
  | nil => rfl
  | cons c a ih =>
    simp only [List.all_cons, Bool.and_eq_true, bne_iff_ne, ne_eq] at h
    rw [List.cons_append]
    conv => lhs; unfold wordsSigns
    split
    · rename_i h1; cases h1
    · rename_i h1; simp only [List.cons.injEq] at h1; exact absurd h1.1 h.1
    · rename_i c' r' _ h1
      simp only [List.cons.injEq] at h1
      obtain ⟨rfl, rfl⟩ := h1
      rw [ih h.2]
def w1Codes : List Nat := [104, 97, 114, 110, 101, 115, 115]
def w2Codes : List Nat := [100, 52, 56, 99, 56, 54, 57, 49, 51, 52, 98, 97, 97, 98, 52, 102, 98, 50, 97, 49, 101, 100, 101, 98, 101, 50, 50, 101, 98, 98, 97, 55, 57, 51, 52, 52, 51, 57, 50, 100, 100, 97, 97, 50, 55, 99, 50, 102, 49, 48, 97, 54, 99, 48, 54, 98, 49, 99, 53, 56, 99, 50, 49, 98]
def w3Codes : List Nat := [99, 117, 116]
def restCodes : List Nat := [97, 116, 32, 108, 111, 111, 112, 46, 101, 120, 97, 109, 112, 108, 101, 47, 103, 48, 49, 51, 56, 52, 47, 108, 97, 119, 115, 46, 70, 110, 66, 108, 101, 110, 100, 115]
theorem head_cut : List.map Char.ofNat headCodes = List.map Char.ofNat w1Codes ++ Char.ofNat 32 :: (List.map Char.ofNat w2Codes ++ Char.ofNat 32 :: (List.map Char.ofNat w3Codes ++ Char.ofNat 32 :: List.map Char.ofNat restCodes)) := by kernel_rfl
theorem w3_is : List.map Char.ofNat w3Codes = "cut".toList := by kernel_rfl
theorem head_words : ∃ rest, behindMainWord (wordsSigns Try.prog.initOrder.toList) = "cut".toList :: rest := by
  refine ⟨wordsSigns (List.map Char.ofNat restCodes), ?_⟩
  rw [head_list, head_cut, ws_one _ _ (by kernel_rfl), ws_one _ _ (by kernel_rfl), ws_one _ _ (by kernel_rfl), w3_is]
  unfold behindMainWord
  dsimp only
  rw [if_pos (by kernel_rfl)]
theorem strip_cut (rest : List (List Char)) : stripLifts liftWords ("cut".toList :: rest) = ([], "cut".toList :: rest) := by
  unfold liftWords
  repeat (rw [stripLifts, if_neg (by decide +kernel)])
  rfl
theorem q_later : Try.prog.laysLater = false := by kernel_rfl
theorem q_reflect : Try.prog.bearsReflect = false := by kernel_rfl
theorem q_door : Try.prog.doorFits [] = true := by kernel_rfl
theorem enter_of {P : Program} {rest : List (List Char)} (h : behindMainWord (wordsSigns P.initOrder.toList) = "cut".toList :: rest) (h1 : P.laysLater = false) (h2 : P.bearsReflect = false) (h3 : P.doorFits [] = true) : P.mayEnter = true := by
  unfold Program.mayEnter
  simp only [h, strip_cut, h1, h2, h3]
  simp
theorem headLifts_of {P : Program} {rest : List (List Char)} (h : behindMainWord (wordsSigns P.initOrder.toList) = "cut".toList :: rest) : P.headLifts = [] := by
  unfold Program.headLifts
  simp only [h, strip_cut]
  simp
theorem lifts_of {P : Program} {rest : List (List Char)} (h : behindMainWord (wordsSigns P.initOrder.toList) = "cut".toList :: rest) : P.liftsFinal = false := by
  unfold Program.liftsFinal
  simp only [h, headLifts_of h]
  simp
theorem make_of {P : Program} {rest : List (List Char)} (h : behindMainWord (wordsSigns P.initOrder.toList) = "cut".toList :: rest) : P.make = some .cut := by
  unfold Program.make
  simp only [h]
  rw [if_neg (by decide +kernel), if_pos (by simp)]
theorem q_enter : Try.prog.mayEnter = true := let ⟨_, h⟩ := head_words; enter_of h q_later q_reflect q_door
theorem q_lifts : Try.prog.liftsFinal = false := let ⟨_, h⟩ := head_words; lifts_of h
theorem q_make : Try.prog.make = some .cut := let ⟨_, h⟩ := head_words; make_of h
end Go.Proofs.Ytjbaaomodcgdgaa
