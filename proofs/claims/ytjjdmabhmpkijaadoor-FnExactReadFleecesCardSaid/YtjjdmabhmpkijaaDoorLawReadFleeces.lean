/- The statement Rows.FnExactReadFleecesCardSaid: for every input the law FnExactReadFleeces returns true and each argument reads as before. The package-level variables that the row lists hold what the program's text lays: the card ties them to it. -/
import Derived.Test.YtjjdmabhmpkijaaDoorCards
import Derived.Test.YtjjdmabhmpkijaaDoorShm
import Derived.Test.YtjjdmabhmpkijaaDoorTie
import Derived.Test.YtjjdmabhmpkijaaDoorKc
import Derived.Test.YtjjdmabhmpkijaaDoorK
import Derived.Test.YtjjdmabhmpkijaaDoorWalkReadFleeces
namespace Go.Proofs.YtjjdmabhmpkijaaDoor.fnExactReadFleeces
open Go.ChangeShapes Go.WideShapes Go.ChangeAt Go.RowKit
open Go.ChangeMaps (open_string shut_string)
set_option linter.unusedVariables false
set_option linter.unusedSimpArgs false
theorem own : ownKnob Tryd.prog.godebug = none := by kernel_rfl
theorem laid : laidOutB Tryd.prog = true := by kernel_rfl
theorem tab10 {W : World} (h : laidMetH Tryd.prog Rows.fnExactReadFleecesRow.laid W) : Lib.TabIs Tryd.prog W "internal/strconv.uint64pow10" .u64 Lib.pow10Tab :=
  Lib.tabIs_of_head (g := 1) (by kernel_rfl) (t := 114) (by kernel_rfl) Tryd.underlying114 Tryd.underlying96 (by kernel_rfl) (by kernel_rfl) (laidMet.tail (laidMet.tail (h)))
theorem rowErr (u : TypeId) (h : Tryd.prog.typeName? 3 u = some "*errors.errorString") : u = 131 :=
  typeName_ptr_named (nm := "errors.errorString") (by rw [show "*" ++ "errors.errorString" = "*errors.errorString" by decide]; kernel_rfl) (by kernel_rfl) (by decide) u (by rw [show "*" ++ "errors.errorString" = "*errors.errorString" by decide]; exact h)
theorem env {W : World} (h : laidMetH Tryd.prog Rows.fnExactReadFleecesRow.laid W) (hSh : W.ShapedOpen Tryd.prog) : Env W.heap.size W := by
  obtain ⟨a3, s3, h3, _⟩ := laid_sentinel (g := 3) (ti := 62) (tp := 131) (te := 133) (ts := 9) (laidMet.tail (laidMet.tail (laidMet.tail (laidMet.tail (h))))) (by kernel_rfl) (by kernel_rfl) Tryd.underlying62 rowErr Tryd.underlying131 Tryd.underlying133 rfl rfl Tryd.underlying9 (by kernel_rfl) (by kernel_rfl)
  obtain ⟨a2, s2, h2, _⟩ := laid_sentinel (g := 2) (ti := 62) (tp := 131) (te := 133) (ts := 9) (laidMet.tail (laidMet.tail (laidMet.tail (laidMet.tail (laidMet.tail (h)))))) (by kernel_rfl) (by kernel_rfl) Tryd.underlying62 rowErr Tryd.underlying131 Tryd.underlying133 rfl rfl Tryd.underlying9 (by kernel_rfl) (by kernel_rfl)
  have hm := Tryd.laysM146.s1_3 W hSh
  have hv : ∀ (n : String) (g : Nat) (cs : Array Value), Tryd.prog.globalNamed n = some g → W.var? Tryd.prog n = some cs → g < W.heap.size := by
    intro n g cs hg hv
    rcases Nat.lt_or_ge g W.heap.size with h' | h'
    · exact h'
    · exfalso
      unfold World.var? at hv
      rw [hg] at hv
      simp [Array.getElem?_eq_none h'] at hv
  refine ⟨Lib.tabBelow_of_tabIs (tab10 h), ⟨hv _ 2 _ (by kernel_rfl) h2, hv _ 3 _ (by kernel_rfl) h3, ?_⟩, hm, ⟨_, _, h2⟩, ⟨_, _, h3⟩⟩
  obtain ⟨m, hm⟩ := hm
  exact World.block_lt_of_cell? _ _ hm
/-- What a variable's block holds where the row's list is met. -/
def laidCells (cs : Array Value) : Obj → Obj
  | .cells _ ty fr => .cells cs ty fr
  | o => o
noncomputable def laidOver (base : World) : World := { base with heap := (((((((((base.heap.modify 6 (laidCells #[.int .u8 0, .int .u8 1, .int .u8 28, .int .u8 2, .int .u8 29, .int .u8 14, .int .u8 24, .int .u8 3, .int .u8 30, .int .u8 22, .int .u8 20, .int .u8 15, .int .u8 25, .int .u8 17, .int .u8 4, .int .u8 8, .int .u8 31, .int .u8 27, .int .u8 13, .int .u8 23, .int .u8 21, .int .u8 19, .int .u8 16, .int .u8 7, .int .u8 26, .int .u8 12, .int .u8 18, .int .u8 6, .int .u8 11, .int .u8 5, .int .u8 10, .int .u8 9])).modify 7 (laidCells #[.int .u8 0, .int .u8 1, .int .u8 56, .int .u8 2, .int .u8 57, .int .u8 49, .int .u8 28, .int .u8 3, .int .u8 61, .int .u8 58, .int .u8 42, .int .u8 50, .int .u8 38, .int .u8 29, .int .u8 17, .int .u8 4, .int .u8 62, .int .u8 47, .int .u8 59, .int .u8 36, .int .u8 45, .int .u8 43, .int .u8 51, .int .u8 22, .int .u8 53, .int .u8 39, .int .u8 33, .int .u8 30, .int .u8 24, .int .u8 18, .int .u8 12, .int .u8 5, .int .u8 63, .int .u8 55, .int .u8 48, .int .u8 27, .int .u8 60, .int .u8 41, .int .u8 37, .int .u8 16, .int .u8 46, .int .u8 35, .int .u8 44, .int .u8 21, .int .u8 52, .int .u8 32, .int .u8 23, .int .u8 11, .int .u8 54, .int .u8 26, .int .u8 40, .int .u8 15, .int .u8 34, .int .u8 20, .int .u8 31, .int .u8 10, .int .u8 25, .int .u8 14, .int .u8 19, .int .u8 9, .int .u8 13, .int .u8 8, .int .u8 7, .int .u8 6])).modify 1 (laidCells #[.int .u64 1, .int .u64 10, .int .u64 100, .int .u64 1000, .int .u64 10000, .int .u64 100000, .int .u64 1000000, .int .u64 10000000, .int .u64 100000000, .int .u64 1000000000, .int .u64 10000000000, .int .u64 100000000000, .int .u64 1000000000000, .int .u64 10000000000000, .int .u64 100000000000000, .int .u64 1000000000000000, .int .u64 10000000000000000, .int .u64 100000000000000000, .int .u64 1000000000000000000, .int .u64 10000000000000000000])).modify 5 (laidCells #[.int .u8 128, .int .u8 191, .int .u8 160, .int .u8 191, .int .u8 128, .int .u8 159, .int .u8 144, .int .u8 191, .int .u8 128, .int .u8 143, .int .u8 0, .int .u8 0, .int .u8 0, .int .u8 0, .int .u8 0, .int .u8 0, .int .u8 0, .int .u8 0, .int .u8 0, .int .u8 0, .int .u8 0, .int .u8 0, .int .u8 0, .int .u8 0, .int .u8 0, .int .u8 0, .int .u8 0, .int .u8 0, .int .u8 0, .int .u8 0, .int .u8 0, .int .u8 0])).modify 3 (laidCells #[.iface 131 (.pointer (some ⟨base.heap.size + 0, 0, none⟩))])).modify 2 (laidCells #[.iface 131 (.pointer (some ⟨base.heap.size + 1, 0, none⟩))])).modify 4 (laidCells (Go.Pinned.utf8FirstZ.map fun (z : Nat) => Value.int .u8 (z : Int)).toArray)).push (.cells #[.string ⟨#[118, 97, 108, 117, 101, 32, 111, 117, 116, 32, 111, 102, 32, 114, 97, 110, 103, 101]⟩] 133)).push (.cells #[.string ⟨#[105, 110, 118, 97, 108, 105, 100, 32, 115, 121, 110, 116, 97, 120]⟩] 133)) }
noncomputable def laidWorld (os : Os) : World := laidOver (World.holding Tryd.prog os ⟨#[], #[], []⟩)
theorem laid_met (os : Os) : laidMet Tryd.prog Rows.fnExactReadFleecesRow.laid ((laidWorld os).forCall (fun _ _ => 0) ⟨#[], #[.string ByteArray.empty], []⟩).memory := laidMet_of_run' 12 (by kernel_rfl) (by kernel_rfl)
theorem reads (os : Os) {H : Type} (enc : TypeId × Value → H) : ∃ x : List MemPlace, DataW.whole enc Tryd.prog ((laidWorld os).forCall (fun _ _ => 0) ⟨#[], #[.string ByteArray.empty], []⟩).memory Tryd.f4.params.toList Rows.fnExactReadFleecesSpec.vars false (#[.string ByteArray.empty] : Array Value).toList 8 = some ([.lit (.string [])], [], x) :=
  ⟨[], by kernel_rfl⟩
set_option maxRecDepth 100000 in
theorem lifted (os : Os) (started : os.Started) (H : Type) (enc : TypeId × Value → H) (F : Stop.Interp) :
    ReturnsInHanded {} Tryd.checked os 4 .any ((OpenSpec.ofChange Rows.fnExactReadFleecesSpec).preRow enc Tryd.prog Tryd.f4 Rows.fnExactReadFleecesRow.domain false Rows.fnExactReadFleecesRow.laid) (((OpenSpec.ofChange Rows.fnExactReadFleecesSpec).at F).post enc Tryd.prog Tryd.f4 false true false false) := by
  obtain ⟨x, hx⟩ := reads os enc
  refine card_lifted (C := Tryd.checked) (fn := Tryd.f4) own started (by kernel_rfl) Tryd.func4 laid rfl rfl Tryd.underlying4 ?_
    (witness_row_at (enc := enc) (C := Tryd.checked) false (laidWorld os) #[.string ByteArray.empty] rfl (by kernel_rfl) (by kernel_rfl) (by kernel_rfl)
      (OpenSpec.preRow_of_cond 8 hx rfl (fun k hk => by cases hk) (by kernel_rfl) (laid_met os))) ?_ ?_
  · rw [Tryd.params4]
    intro t ht
    simp only [List.mem_cons, List.not_mem_nil, or_false] at ht
    rcases ht with rfl
    · exact ⟨by kernel_rfl, of_decide_eq_true (by kernel_rfl)⟩
  · intro ds W args p hA
    rw [Tryd.params4] at hA
    obtain ⟨v0, vs0, d0, ds0, p0, q0, hargs, rfl, rfl, h0, r0⟩ := trodAll_cons hA
    obtain ⟨rfl, rfl, rfl⟩ := trodAll_nil r0
    exact ⟨rfl, rfl, rfl⟩
  · intro W base args ds p hval hA hsz hL hSh
    rw [Tryd.params4] at hA hval hsz
    obtain ⟨v0, vs0, d0, ds0, p0, q0, hargs, rfl, rfl, h0, r0⟩ := trodAll_cons hA
    obtain ⟨rfl, rfl, rfl⟩ := trodAll_nil r0
    obtain rfl : args = #[v0] := by cases args; simp_all
    obtain ⟨x0, rfl, rfl, rfl, g0⟩ := open_string Tryd.underlying9 (hval 0 9 v0 rfl rfl) h0
    have b0 : x0.size ≤ 140737488351232 := by
      have z := sized_string hsz (j := 0) (t := 9) rfl rfl
      rw [Array.length_toList] at z
      exact z
    exact walk_ReadFleeces W x0 b0 (env hL hSh)
theorem said : Rows.FnExactReadFleecesSaid :=
  OpenClaim.holds_of_cond 4 Tryd.f4 rfl rfl rfl rfl rfl rfl rfl ⟨rfl, rfl, rfl, rfl, rfl⟩ rfl rfl rfl rfl rfl (by kernel_rfl) Tryd.func4 (by kernel_rfl)
    (of_decide_eq_true (by kernel_rfl)) (by unfold Func.isWrapper; first | (rw [if_pos (by decide +kernel)]; kernel_rfl) | (rw [if_neg (by decide +kernel)]; exact ⟨rfl, rfl⟩))
    (fun os started H enc _ F => by rw [OpenClaim.pre_eq_preRow]; exact lifted os started H enc F)
/-- No parameter wants a stand-in; the program's own looks are off: what the card asks. -/
theorem plain (f : FuncId) (fn : Func) (hf : Tryd.pinned.checked.prog.funcNamed Rows.fnExactReadFleecesRow.func = some f) (hfn : Tryd.pinned.checked.prog.funcs[f]? = some fn) :
    Rows.fnExactReadFleecesCard.stood.looks = Tryd.pinned.checked.prog.looks [] ∧ ∀ (j : Nat) t, fn.params[j]? = some t → Tryd.pinned.checked.prog.wantsStandIn t = false := by
  obtain rfl : f = 4 := Option.some.inj ((show Tryd.prog.funcNamed Rows.fnExactReadFleecesRow.func = some 4 by kernel_rfl).symm.trans hf) |>.symm
  obtain rfl : fn = Tryd.f4 := (Option.some.inj (Tryd.func4.symm.trans hfn)).symm
  refine ⟨by kernel_rfl, fun j t ht => ?_⟩
  rw [Tryd.params4] at ht
  have h := Array.mem_of_getElem? ht
  simp only [List.mem_toArray, List.mem_cons, List.not_mem_nil, or_false] at h
  rcases h with rfl
  · show Tryd.prog.wantsStandIn _ = false
    kernel_rfl
theorem card : Rows.FnExactReadFleecesCardSaid :=
  Claim7.holds_tied_plain_at .later [] _ _ _ _ said (fun _ h => by cases h) (by kernel_rfl) (fun _ h => by cases h) fnExactReadFleeces_row_tie rfl ⟨rfl, rfl⟩ (by kernel_rfl) rfl plain (by kernel_rfl)
end Go.Proofs.YtjjdmabhmpkijaaDoor.fnExactReadFleeces
namespace Go.Proofs.YtjjdmabhmpkijaaDoor
/-- For every input the law FnExactReadFleeces returns true and each argument reads as before; the package-level variables that the row lists are tied to the program's text. -/
theorem readFleeces_holds : Rows.FnExactReadFleecesCardSaid := fnExactReadFleeces.card
#print axioms readFleeces_holds
end Go.Proofs.YtjjdmabhmpkijaaDoor
