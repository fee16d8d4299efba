/- The statement Rows.FnFleecesCardSaid: for every input the law FnFleeces returns true and each argument reads as before. The package-level variables that the row lists hold what the program's text lays: the card ties them to it. -/
import Derived.Test.YtbkhlcbnnjgdpaaGreatDoorCards
import Derived.Test.YtbkhlcbnnjgdpaaGreatDoorTie
import Derived.Test.YtbkhlcbnnjgdpaaGreatDoorKc
import Derived.Test.YtbkhlcbnnjgdpaaGreatDoorShm
import Derived.Test.YtbkhlcbnnjgdpaaGreatDoorBa
import Derived.Test.YtbkhlcbnnjgdpaaGreatDoorXq
namespace Go.Proofs.YtbkhlcbnnjgdpaaGreatDoor.fnFleeces
open Go.ChangeShapes Go.WideShapes Go.ChangeAt Go.RowKit
open Go.ChangeMaps (open_string shut_string)
set_option linter.unusedVariables false
set_option linter.unusedSimpArgs false
theorem own : ownKnob Tryz.prog.godebug = none := by kernel_rfl
theorem laid : laidOutB Tryz.prog = true := by kernel_rfl
theorem tab10 {W : World} (h : laidMetH Tryz.prog Rows.fnFleecesRow.laid W) : Lib.TabIs Tryz.prog W "internal/strconv.uint64pow10" .u64 Lib.pow10Tab :=
  Lib.tabIs_of_head (g := 3) (by kernel_rfl) (t := 157) (by kernel_rfl) Tryz.underlying157 Tryz.underlying91 (by kernel_rfl) (by kernel_rfl) (laidMet.tail (laidMet.tail (h)))
theorem rowErr (u : TypeId) (h : Tryz.prog.typeName? 3 u = some "*errors.errorString") : u = 165 :=
  typeName_ptr_named (nm := "errors.errorString") (by rw [show "*" ++ "errors.errorString" = "*errors.errorString" by decide]; kernel_rfl) (by kernel_rfl) (by decide) u (by rw [show "*" ++ "errors.errorString" = "*errors.errorString" by decide]; exact h)
theorem env {W : World} (h : laidMetH Tryz.prog Rows.fnFleecesRow.laid W) (hSh : W.ShapedOpen Tryz.prog) : Env W.heap.size W := by
  obtain ⟨a3, s3, h3, _⟩ := laid_sentinel (g := 2) (ti := 109) (tp := 165) (te := 167) (ts := 9) (laidMet.tail (laidMet.tail (laidMet.tail (laidMet.tail (h))))) (by kernel_rfl) (by kernel_rfl) Tryz.underlying109 rowErr Tryz.underlying165 Tryz.underlying167 rfl rfl Tryz.underlying9 (by kernel_rfl) (by kernel_rfl)
  obtain ⟨a2, s2, h2, _⟩ := laid_sentinel (g := 1) (ti := 109) (tp := 165) (te := 167) (ts := 9) (laidMet.tail (laidMet.tail (laidMet.tail (laidMet.tail (laidMet.tail (h)))))) (by kernel_rfl) (by kernel_rfl) Tryz.underlying109 rowErr Tryz.underlying165 Tryz.underlying167 rfl rfl Tryz.underlying9 (by kernel_rfl) (by kernel_rfl)
  have hm := Tryz.laysM146.s1_3 W hSh
  have hv : ∀ (n : String) (g : Nat) (cs : Array Value), Tryz.prog.globalNamed n = some g → W.var? Tryz.prog n = some cs → g < W.heap.size := by
    intro n g cs hg hv
    rcases Nat.lt_or_ge g W.heap.size with h' | h'
    · exact h'
    · exfalso
      unfold World.var? at hv
      rw [hg] at hv
      simp [Array.getElem?_eq_none h'] at hv
  refine ⟨Lib.tabBelow_of_tabIs (tab10 h), ⟨hv _ 1 _ (by kernel_rfl) h2, hv _ 2 _ (by kernel_rfl) h3, ?_⟩, hm, ⟨_, _, h2⟩, ⟨_, _, h3⟩⟩
  obtain ⟨m, hm⟩ := hm
  exact World.block_lt_of_cell? _ _ hm
/-- What a variable's block holds where the row's list is met. -/
def laidCells (cs : Array Value) : Obj → Obj
  | .cells _ ty fr => .cells cs ty fr
  | o => o
noncomputable def laidOver (base : World) : World := { base with heap := (((((((((base.heap.modify 6 (laidCells #[.int .u8 0, .int .u8 1, .int .u8 28, .int .u8 2, .int .u8 29, .int .u8 14, .int .u8 24, .int .u8 3, .int .u8 30, .int .u8 22, .int .u8 20, .int .u8 15, .int .u8 25, .int .u8 17, .int .u8 4, .int .u8 8, .int .u8 31, .int .u8 27, .int .u8 13, .int .u8 23, .int .u8 21, .int .u8 19, .int .u8 16, .int .u8 7, .int .u8 26, .int .u8 12, .int .u8 18, .int .u8 6, .int .u8 11, .int .u8 5, .int .u8 10, .int .u8 9])).modify 7 (laidCells #[.int .u8 0, .int .u8 1, .int .u8 56, .int .u8 2, .int .u8 57, .int .u8 49, .int .u8 28, .int .u8 3, .int .u8 61, .int .u8 58, .int .u8 42, .int .u8 50, .int .u8 38, .int .u8 29, .int .u8 17, .int .u8 4, .int .u8 62, .int .u8 47, .int .u8 59, .int .u8 36, .int .u8 45, .int .u8 43, .int .u8 51, .int .u8 22, .int .u8 53, .int .u8 39, .int .u8 33, .int .u8 30, .int .u8 24, .int .u8 18, .int .u8 12, .int .u8 5, .int .u8 63, .int .u8 55, .int .u8 48, .int .u8 27, .int .u8 60, .int .u8 41, .int .u8 37, .int .u8 16, .int .u8 46, .int .u8 35, .int .u8 44, .int .u8 21, .int .u8 52, .int .u8 32, .int .u8 23, .int .u8 11, .int .u8 54, .int .u8 26, .int .u8 40, .int .u8 15, .int .u8 34, .int .u8 20, .int .u8 31, .int .u8 10, .int .u8 25, .int .u8 14, .int .u8 19, .int .u8 9, .int .u8 13, .int .u8 8, .int .u8 7, .int .u8 6])).modify 3 (laidCells #[.int .u64 1, .int .u64 10, .int .u64 100, .int .u64 1000, .int .u64 10000, .int .u64 100000, .int .u64 1000000, .int .u64 10000000, .int .u64 100000000, .int .u64 1000000000, .int .u64 10000000000, .int .u64 100000000000, .int .u64 1000000000000, .int .u64 10000000000000, .int .u64 100000000000000, .int .u64 1000000000000000, .int .u64 10000000000000000, .int .u64 100000000000000000, .int .u64 1000000000000000000, .int .u64 10000000000000000000])).modify 5 (laidCells #[.int .u8 128, .int .u8 191, .int .u8 160, .int .u8 191, .int .u8 128, .int .u8 159, .int .u8 144, .int .u8 191, .int .u8 128, .int .u8 143, .int .u8 0, .int .u8 0, .int .u8 0, .int .u8 0, .int .u8 0, .int .u8 0, .int .u8 0, .int .u8 0, .int .u8 0, .int .u8 0, .int .u8 0, .int .u8 0, .int .u8 0, .int .u8 0, .int .u8 0, .int .u8 0, .int .u8 0, .int .u8 0, .int .u8 0, .int .u8 0, .int .u8 0, .int .u8 0])).modify 2 (laidCells #[.iface 165 (.pointer (some ⟨base.heap.size + 0, 0, none⟩))])).modify 1 (laidCells #[.iface 165 (.pointer (some ⟨base.heap.size + 1, 0, none⟩))])).modify 4 (laidCells (Go.Pinned.utf8FirstZ.map fun (z : Nat) => Value.int .u8 (z : Int)).toArray)).push (.cells #[.string ⟨#[118, 97, 108, 117, 101, 32, 111, 117, 116, 32, 111, 102, 32, 114, 97, 110, 103, 101]⟩] 167)).push (.cells #[.string ⟨#[105, 110, 118, 97, 108, 105, 100, 32, 115, 121, 110, 116, 97, 120]⟩] 167)) }
noncomputable def laidWorld (os : Os) : World := laidOver (World.holding Tryz.prog os ⟨#[], #[], []⟩)
theorem laid_met (os : Os) : laidMet Tryz.prog Rows.fnFleecesRow.laid ((laidWorld os).forCall (fun _ _ => 0) ⟨#[], #[.slice none 0 0, .slice none 0 0], []⟩).memory := laidMet_of_run' 12 (by kernel_rfl) (by kernel_rfl)
theorem reads (os : Os) {H : Type} (enc : TypeId × Value → H) : ∃ x : List MemPlace, DataW.whole enc Tryz.prog ((laidWorld os).forCall (fun _ _ => 0) ⟨#[], #[.slice none 0 0, .slice none 0 0], []⟩).memory Tryz.f3.params.toList Rows.fnFleecesSpec.vars false (#[.slice none 0 0, .slice none 0 0] : Array Value).toList 8 = some ([.nil, .nil], [], x) :=
  ⟨[], by kernel_rfl⟩
set_option maxRecDepth 100000 in
theorem lifted (os : Os) (started : os.Started) (H : Type) (enc : TypeId × Value → H) (F : Stop.Interp) :
    ReturnsInHanded {} Tryz.checked os 3 .any ((OpenSpec.ofChange Rows.fnFleecesSpec).preRow enc Tryz.prog Tryz.f3 Rows.fnFleecesRow.domain false Rows.fnFleecesRow.laid) (((OpenSpec.ofChange Rows.fnFleecesSpec).at F).post enc Tryz.prog Tryz.f3 false true false false) := by
  obtain ⟨x, hx⟩ := reads os enc
  refine card_lifted (C := Tryz.checked) (fn := Tryz.f3) own started (by kernel_rfl) Tryz.func3 laid rfl rfl Tryz.underlying4 ?_
    (witness_row_at (enc := enc) (C := Tryz.checked) false (laidWorld os) #[.slice none 0 0, .slice none 0 0] rfl (by kernel_rfl) (by kernel_rfl) (by kernel_rfl)
      (OpenSpec.preRow_of_cond 8 hx rfl (fun k hk => by cases hk) (by kernel_rfl) (laid_met os))) ?_ ?_
  · rw [Tryz.params3]
    intro t ht
    simp only [List.mem_cons, List.not_mem_nil, or_false] at ht
    rcases ht with rfl | rfl
    · exact ⟨by kernel_rfl, of_decide_eq_true (by kernel_rfl)⟩
    · exact ⟨by kernel_rfl, of_decide_eq_true (by kernel_rfl)⟩
  · intro ds W args p hA
    rw [Tryz.params3] at hA
    obtain ⟨v0, vs0, d0, ds0, p0, q0, hargs, rfl, rfl, h0, r0⟩ := trodAll_cons hA
    obtain ⟨v1, vs1, d1, ds1, p1, q1, rfl, rfl, rfl, h1, r1⟩ := trodAll_cons r0
    obtain ⟨rfl, rfl, rfl⟩ := trodAll_nil r1
    exact ⟨rfl, rfl, rfl⟩
  · intro W base args ds p hval hA hsz hL hSh
    rw [Tryz.params3] at hA hval hsz
    obtain ⟨v0, vs0, d0, ds0, p0, q0, hargs, rfl, rfl, h0, r0⟩ := trodAll_cons hA
    obtain ⟨v1, vs1, d1, ds1, p1, q1, rfl, rfl, rfl, h1, r1⟩ := trodAll_cons r0
    obtain ⟨rfl, rfl, rfl⟩ := trodAll_nil r1
    obtain rfl : args = #[v0, v1] := by cases args; simp_all
    obtain ⟨A0, n0, c0, x0, rfl, hc0, R0, g0, b0⟩ := opens_slice (sz := 1) (by_ := 1) (opens_int Tryz.underlying5) Tryz.underlying22 (by kernel_rfl) (by kernel_rfl) (by decide) (hval 0 22 v0 rfl rfl) hsz (j := 0) rfl rfl h0
    obtain ⟨A1, n1, c1, x1, rfl, hc1, R1, g1, b1⟩ := opens_slice (sz := 1) (by_ := 1) (opens_int Tryz.underlying5) Tryz.underlying22 (by kernel_rfl) (by kernel_rfl) (by decide) (hval 1 22 v1 rfl rfl) hsz (j := 1) rfl rfl h1
    exact walk_FnFleeces W A0 n0 c0 x0 hc0 R0 g0 b0 A1 n1 c1 x1 hc1 R1 g1 b1 (env hL hSh)
theorem said : Rows.FnFleecesSaid :=
  OpenClaim.holds_of_cond 3 Tryz.f3 rfl rfl rfl rfl rfl rfl rfl ⟨rfl, rfl, rfl, rfl, rfl⟩ rfl rfl rfl rfl rfl (by kernel_rfl) Tryz.func3 (by kernel_rfl)
    (of_decide_eq_true (by kernel_rfl)) (by unfold Func.isWrapper; first | (rw [if_pos (by decide +kernel)]; kernel_rfl) | (rw [if_neg (by decide +kernel)]; exact ⟨rfl, rfl⟩))
    (fun os started H enc _ F => by rw [OpenClaim.pre_eq_preRow]; exact lifted os started H enc F)
/-- No parameter wants a stand-in; the program's own looks are off: what the card asks. -/
theorem plain (f : FuncId) (fn : Func) (hf : Tryz.pinned.checked.prog.funcNamed Rows.fnFleecesRow.func = some f) (hfn : Tryz.pinned.checked.prog.funcs[f]? = some fn) :
    Rows.fnFleecesCard.stood.looks = Tryz.pinned.checked.prog.looks [] ∧ ∀ (j : Nat) t, fn.params[j]? = some t → Tryz.pinned.checked.prog.wantsStandIn t = false := by
  obtain rfl : f = 3 := Option.some.inj ((show Tryz.prog.funcNamed Rows.fnFleecesRow.func = some 3 by kernel_rfl).symm.trans hf) |>.symm
  obtain rfl : fn = Tryz.f3 := (Option.some.inj (Tryz.func3.symm.trans hfn)).symm
  refine ⟨by kernel_rfl, fun j t ht => ?_⟩
  rw [Tryz.params3] at ht
  have h := Array.mem_of_getElem? ht
  simp only [List.mem_toArray, List.mem_cons, List.not_mem_nil, or_false] at h
  rcases h with rfl | rfl
  · show Tryz.prog.wantsStandIn _ = false
    kernel_rfl
  · show Tryz.prog.wantsStandIn _ = false
    kernel_rfl
theorem card : Rows.FnFleecesCardSaid :=
  Claim7.holds_tied_plain_at .later [] _ _ _ _ said (fun _ h => by cases h) (by kernel_rfl) (fun _ h => by cases h) fnFleeces_row_tie rfl ⟨rfl, rfl⟩ (by kernel_rfl) rfl plain (by kernel_rfl)
end Go.Proofs.YtbkhlcbnnjgdpaaGreatDoor.fnFleeces
namespace Go.Proofs.YtbkhlcbnnjgdpaaGreatDoor
/-- For every input the law FnFleeces returns true and each argument reads as before; the package-level variables that the row lists are tied to the program's text. -/
theorem fnFleeces_holds : Rows.FnFleecesCardSaid := fnFleeces.card
#print axioms fnFleeces_holds
end Go.Proofs.YtbkhlcbnnjgdpaaGreatDoor
