/- Rows of texts of the call's own. -/
import Derived.Test.YtjjdmabhmpkijaaDoorProg
import Derived.Test.YtjjdmabhmpkijaaDoorK
namespace Go.Proofs.YtjjdmabhmpkijaaDoor
open Go.RowKit
set_option linter.unusedVariables false
set_option linter.unusedSimpArgs false
def strs (L : List ByteArray) : List Value := L.map fun s => .string s
theorem strs_flat (L : List ByteArray) : strs L = L.flatMap fun s => [.string s] := by
  induction L with
  | nil => rfl
  | cons x L ih => simp [strs, List.flatMap_cons] at *; exact ih
theorem own_strs {w : World} {base E n c : Nat} {A : Option Addr} {L : List ByteArray} (O : w.ownsRow base E 1 (.slice A n c) n (strs L)) (hn : n ≤ 140737488351232) : Rds w A n 1 (fun s : ByteArray => [.string s]) L :=
  own_rds (by rw [← strs_flat]; exact O) (fun _ _ => rfl) (by omega) hn
theorem str_cat (s : ByteArray) (b : UInt8) : s ++ (⟨#[b]⟩ : ByteArray) = s.push b := by
  apply ByteArray.ext
  simp
theorem infoStr : (Tryd.prog.info? 9).map (fun i => (i.zero, i.size, i.bytes)) = some (some (.string ByteArray.empty), 1, 16) := by kernel_rfl
end Go.Proofs.YtjjdmabhmpkijaaDoor
