/- The tails of a function's code by their number, and a frame of 356 slots as slots; The walk of FnBlends, its end: a half of three, fractions compared. -/
import Derived.Test.YtjbaaomodcgdgaaA0
import Derived.Test.YtjbaaomodcgdgaaWp
import Derived.BigQuiet
import Derived.Deep.QuietTactic
import Derived.IntWalk
namespace Go.Proofs.Ytjbaaomodcgdgaa
open Go.RowKit
def cd : Nat → Code → Code
  | 0, c => c
  | k + 1, .seq _ b => cd k b
  | _ + 1, c => c
def hd : Code → Code
  | .seq a _ => a
  | c => c
def rs : Code → Code
  | .seq _ b => b
  | c => c
noncomputable def blCode : Code := Try.f3.body.getD .skip
set_option maxRecDepth 100000 in
theorem slots356 (t : Array Value) (h : t.size = 356) : ∃ c : Nat → Value, (∀ i, t[i]! = c i) ∧ t = #[c 0, c 1, c 2, c 3, c 4, c 5, c 6, c 7, c 8, c 9, c 10, c 11, c 12, c 13, c 14, c 15, c 16, c 17, c 18, c 19, c 20, c 21, c 22, c 23, c 24, c 25, c 26, c 27, c 28, c 29, c 30, c 31, c 32, c 33, c 34, c 35, c 36, c 37, c 38, c 39, c 40, c 41, c 42, c 43, c 44, c 45, c 46, c 47, c 48, c 49, c 50, c 51, c 52, c 53, c 54, c 55, c 56, c 57, c 58, c 59, c 60, c 61, c 62, c 63, c 64, c 65, c 66, c 67, c 68, c 69, c 70, c 71, c 72, c 73, c 74, c 75, c 76, c 77, c 78, c 79, c 80, c 81, c 82, c 83, c 84, c 85, c 86, c 87, c 88, c 89, c 90, c 91, c 92, c 93, c 94, c 95, c 96, c 97, c 98, c 99, c 100, c 101, c 102, c 103, c 104, c 105, c 106, c 107, c 108, c 109, c 110, c 111, c 112, c 113, c 114, c 115, c 116, c 117, c 118, c 119, c 120, c 121, c 122, c 123, c 124, c 125, c 126, c 127, c 128, c 129, c 130, c 131, c 132, c 133, c 134, c 135, c 136, c 137, c 138, c 139, c 140, c 141, c 142, c 143, c 144, c 145, c 146, c 147, c 148, c 149, c 150, c 151, c 152, c 153, c 154, c 155, c 156, c 157, c 158, c 159, c 160, c 161, c 162, c 163, c 164, c 165, c 166, c 167, c 168, c 169, c 170, c 171, c 172, c 173, c 174, c 175, c 176, c 177, c 178, c 179, c 180, c 181, c 182, c 183, c 184, c 185, c 186, c 187, c 188, c 189, c 190, c 191, c 192, c 193, c 194, c 195, c 196, c 197, c 198, c 199, c 200, c 201, c 202, c 203, c 204, c 205, c 206, c 207, c 208, c 209, c 210, c 211, c 212, c 213, c 214, c 215, c 216, c 217, c 218, c 219, c 220, c 221, c 222, c 223, c 224, c 225, c 226, c 227, c 228, c 229, c 230, c 231, c 232, c 233, c 234, c 235, c 236, c 237, c 238, c 239, c 240, c 241, c 242, c 243, c 244, c 245, c 246, c 247, c 248, c 249, c 250, c 251, c 252, c 253, c 254, c 255, c 256, c 257, c 258, c 259, c 260, c 261, c 262, c 263, c 264, c 265, c 266, c 267, c 268, c 269, c 270, c 271, c 272, c 273, c 274, c 275, c 276, c 277, c 278, c 279, c 280, c 281, c 282, c 283, c 284, c 285, c 286, c 287, c 288, c 289, c 290, c 291, c 292, c 293, c 294, c 295, c 296, c 297, c 298, c 299, c 300, c 301, c 302, c 303, c 304, c 305, c 306, c 307, c 308, c 309, c 310, c 311, c 312, c 313, c 314, c 315, c 316, c 317, c 318, c 319, c 320, c 321, c 322, c 323, c 324, c 325, c 326, c 327, c 328, c 329, c 330, c 331, c 332, c 333, c 334, c 335, c 336, c 337, c 338, c 339, c 340, c 341, c 342, c 343, c 344, c 345, c 346, c 347, c 348, c 349, c 350, c 351, c 352, c 353, c 354, c 355] := by
  refine ⟨fun i => t[i]!, fun _ => rfl, ?_⟩
  have e : t = ((List.range 356).map fun i => t[i]!).toArray := by
    apply Array.ext
    · simp [h]
    · intro i h1 h2
      simp [h1]
  exact e.trans (congrArg List.toArray (by kernel_rfl))
end Go.Proofs.Ytjbaaomodcgdgaa
namespace Go.Proofs.Ytjbaaomodcgdgaa
open Go.RowKit
set_option linter.unusedVariables false
set_option linter.unusedSimpArgs false
set_option maxRecDepth 100000 in
set_option maxHeartbeats 4000000 in
theorem bl41 (w0 w : World) (HB : Hid (Below w0.heap.size w0 w)) (P : Int) (hP : 1 ≤ P ∧ P ≤ 5)
    (t : Array Value) (ht : t.size = 356) (h7 : t[7]! = .int .i64 P)
    (K : Act → World → Prop) (hK : ∀ a w, (rs (cd 22 blCode)).wp Try.prog (bodyPost Try.prog Try.f3 fun e w' => e = .returned (.bool true) ∧ Below w0.heap.size w0 w') a w → K a w) :
    (hd (cd 22 blCode)).wp Try.prog (Exit.then K (bodyPost Try.prog Try.f3 fun e w' => e = .returned (.bool true) ∧ Below w0.heap.size w0 w')) ⟨t, []⟩ w := by
  rw [(slots356 t ht).choose_spec.1] at h7
  obtain ⟨s, hs⟩ : ∃ s, (slots356 t ht).choose = s := ⟨_, rfl⟩
  have e := (slots356 t ht).choose_spec.2
  rw [hs] at h7 e
  rw [e, h7]
  clear e hs h7 ht t
  conv => arg 2; whnf
  conv at hK => enter [a, w, 1, 2]; whnf
  obtain ⟨c1, c2, c3, c4⟩ := cmp_is
  obtain ⟨m1, m2, m3⟩ := half_is hP
  have v1 : IntKind.i64.wrap (6 * P) = 6 * P := IntWalk.i64_in _ (by omega)
  have v2 : IntKind.i64.wrap (-4 * P) = -4 * P := IntWalk.i64_in _ (by omega)
  have HM : Hid (∀ wx, Calls Try.prog 21 #[.int .i64 (6 * P), .int .i64 (-4 * P)] wx fun e w' => e = .returned (.tuple #[Fr (-3) 2, .int .i64 0]) ∧ Below wx.heap.size wx w') := Lib.hid (fun wx => by have h := iMakeFraction (6 * P) (-4 * P) wx (by omega) (by omega); rw [m1, m2, m3] at h; exact h)
  have HC1 : Hid (∀ wx, Calls Try.prog 22 #[Fr (-3) 2, Fr (-3) 2] wx fun e w' => e = .returned (.tuple #[.int .i64 0, .int .i64 0]) ∧ Below wx.heap.size wx w') := Lib.hid (fun wx => by have h := iCompareFractions (-3) 2 (-3) 2 wx (by omega) (by omega) (by omega) (by omega); rw [c1, c2] at h; exact h)
  have HC2 : Hid (∀ wx, Calls Try.prog 22 #[Fr (-2) 1, Fr (-3) 2] wx fun e w' => e = .returned (.tuple #[.int .i64 (-1), .int .i64 0]) ∧ Below wx.heap.size wx w') := Lib.hid (fun wx => by have h := iCompareFractions (-2) 1 (-3) 2 wx (by omega) (by omega) (by omega) (by omega); rw [c3, c4] at h; exact h)
  clear c1 c2 c3 c4 m1 m2 m3
  go_wp2_with fail
  refine (HM.out _).mono ?_
  rintro e w1 ⟨rfl, hb⟩
  replace HB := Lib.hid (below_then HB.out HB.out.size hb)
  clear hb HM v1 v2 hP
  go_wp2_with fail
  replace HB := Lib.hid (HB.out.alloc HB.out.size (.cells #[.int .i64 (-3), .int .i64 2] 34))
  have X0 := Row.alloc w1 [.int .i64 (-3), .int .i64 2] 34
  refine (HC1.out _).mono ?_
  rintro e w2 ⟨rfl, hb⟩
  replace HB := Lib.hid (below_then HB.out HB.out.size hb)
  replace X0 := X0.below hb
  clear hb HC1
  go_wp2_with fail
  refine (HC2.out _).mono ?_
  rintro e w3 ⟨rfl, hb⟩
  replace HB := Lib.hid (below_then HB.out HB.out.size hb)
  replace X0 := X0.below hb
  have e0 := X0.cells2
  clear hb HC2
  go_wp2_with fail
  go_ret
  exact ⟨rfl, HB.out⟩
end Go.Proofs.Ytjbaaomodcgdgaa
