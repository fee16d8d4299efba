/- Contracts: impl.small, impl.split, impl.ReadWeb and spec.ReadWeb. -/
import Derived.Test.YtbkhlcbnnjgdpaaGreatDoorO2
import Derived.Lib.ParseIntBTie
namespace Go.Proofs.YtbkhlcbnnjgdpaaGreatDoor
open Go.RowKit
set_option linter.unusedVariables false
set_option linter.unusedSimpArgs false
/-- What the texts' readers ask of the package-level variables. -/
structure Env (B : Nat) (w : World) : Prop where
  tb : Tb B w
  low : 1 < B ∧ 2 < B ∧ 0 < B
  mx : ∃ m, w.cell? ⟨0, 0, none⟩ = some (.int .i64 m)
  sy : ∃ tp p, w.var? Tryz.prog "strconv.ErrSyntax" = some #[.iface tp p]
  ra : ∃ tp p, w.var? Tryz.prog "strconv.ErrRange" = some #[.iface tp p]
theorem var_on {P : Program} {w w' : World} {n : String} {g B : Nat} {cs : Array Value} (hg : P.globalNamed n = some g) (hB : g < B) (hb : Below B w w') (h : w.var? P n = some cs) : w'.var? P n = some cs := by
  unfold World.var? at h ⊢
  rw [hg] at h ⊢
  simp only [Option.bind_some] at h ⊢
  rw [hb.block g hB]
  exact h
theorem Env.on {B : Nat} {w w' : World} (E : Env B w) (hb : Below B w w') : Env B w' := by
  obtain ⟨h1, h0, ⟨m, h2⟩, ⟨t3, p3, h3⟩, ⟨t4, p4, h4⟩⟩ := E
  refine ⟨h1.on hb, h0, ⟨m, ?_⟩, ⟨t3, p3, var_on (g := 1) (by kernel_rfl) h0.1 hb h3⟩, ⟨t4, p4, var_on (g := 2) (by kernel_rfl) h0.2.1 hb h4⟩⟩
  rw [World.cell?_of_block (w := w) (hb.block 0 h0.2.2)]
  exact h2
theorem infoI64 : (Tryz.prog.info? 2).map (fun i => (i.zero, i.size, i.bytes)) = some (some (.int .i64 0), 1, 8) := by kernel_rfl
/-- The words of a text, as the library's Split lays them. -/
def lwd (s : ByteArray) : List ByteArray := Lib.splitB ⟨#[32]⟩ 0 (Lib.countB s ⟨#[32]⟩) s
theorem lwd_wds (s : ByteArray) : (lwd s).map (·.data.toList) = wds s := splitB_sp 32 s
theorem lwd_len (s : ByteArray) : (lwd s).length = Lib.countB s ⟨#[32]⟩ + 1 := Lib.splitB_all ⟨#[32]⟩ (by decide) 0 _ s rfl
theorem lwd_le (s : ByteArray) : (lwd s).length ≤ s.size + 1 := by
  have := Lib.countB_le ⟨#[32]⟩ (by decide) s.size s (Nat.le_refl _)
  have := lwd_len s
  omega
theorem lwd_size {s x : ByteArray} (h : x ∈ lwd s) : x.size ≤ s.size := by
  have h1 : x.data.toList ∈ wds s := by rw [← lwd_wds]; exact List.mem_map_of_mem h
  have h2 : ∀ (l : List UInt8), ∀ y ∈ sp 32 l, y.length ≤ l.length := by
    intro l
    induction l with
    | nil => intro y hy; simp [sp] at hy; subst hy; simp
    | cons z r ih =>
      intro y hy
      obtain ⟨a, t, e⟩ := sp_ne 32 r
      by_cases hx : z = 32
      · subst hx
        rw [sp_hit] at hy
        rcases List.mem_cons.1 hy with rfl | h
        · simp
        · have := ih y h; simp; omega
      · rw [sp_miss hx r e] at hy
        rw [e] at ih
        rcases List.mem_cons.1 hy with rfl | h
        · have := ih a (by simp); simp; omega
        · have := ih y (by simp [h]); simp; omega
  have := h2 _ _ h1
  rw [str_len, str_len] at this
  exact this
theorem lwd_ivs (s : ByteArray) : (lwd s).map (fun x => pv 64 x.data.toList) = ivs s := by unfold ivs; rw [← lwd_wds, List.map_map]; rfl
theorem all_no {s : ByteArray} {j : Nat} {x : ByteArray} (hx : (lwd s)[j]? = some x) (h : pok 64 x.data.toList = false) : iok s = false := by
  have hm : x.data.toList ∈ wds s := by rw [← lwd_wds]; exact List.mem_map_of_mem (List.mem_of_getElem? hx)
  unfold iok
  have : (wds s).all (pok 64) = false := by rw [List.all_eq_false]; exact ⟨_, hm, by rw [h]; simp⟩
  rw [this]
  rfl
theorem all_yes {s : ByteArray} (h : NotYet (fun x : ByteArray => !pok 64 x.data.toList) (lwd s) (lwd s).length) : (wds s).all (pok 64) = true := by
  rw [List.all_eq_true]
  intro y hy
  rw [← lwd_wds] at hy
  obtain ⟨x, hx, rfl⟩ := List.mem_map.1 hy
  obtain ⟨j, hj, rfl⟩ := List.getElem_of_mem hx
  have := h j _ hj (List.getElem?_eq_getElem hj)
  simpa using this
theorem str_eq (a b : ByteArray) : (a.toList == b.toList) = decide (a = b) := by
  rw [ByteArray.toList_eq, ByteArray.toList_eq]
  by_cases h : a = b
  · subst h; simp
  · rw [decide_eq_false h, beq_eq_false_iff_ne]
    intro e
    exact h (ByteArray.ext (Array.toList_inj.1 e))
end Go.Proofs.YtbkhlcbnnjgdpaaGreatDoor
