/- Over any program: append onto a row of the call's own, as a step of a region that draws its order: all other blocks stand, and the old elements still read as they did. -/
import Derived.Test.YtkiocmbiahbboaaKp
namespace Go.Proofs.Ytkiocmbiahbboaa
open Go.RowKit
set_option linter.unusedVariables false
set_option linter.unusedSimpArgs false
theorem append_old {P : Program} (w : World) (base : Nat) (t ty e : TypeId) (i : TypeInfo) (z : Value) (size bytes : Nat) (ht : P.underlying t = some (.slice e)) (hi : P.info? e = some i) (hz : i.zero = some z)
    (hsize : i.size = size) (hby : i.bytes = bytes) (hsz : 0 < size) (v : Value) (n : Nat) (xs : List Value) (hown : w.ownsRow base e size v n xs)
    (a : Addr) (m c : Nat) (news : List Value) (hl : news.length = m * size) (hnews : ∀ j u, news[j]? = some u → w.cell? (a.add j) = some u) (h1 : ∀ u ∈ news, u.oneCell' = true)
    (h63 : n + m ≤ maxLen) (hbytes : (n + m) * bytes ≤ 140737488355328) {v' : Value} {w' : World} (hrun : (Builtin.append_ #[t, t] ty #[v, .slice (some a) m c]).run P w = .ok v' w') :
    ∀ g k x, v.ownBlock = some g → xs[k]? = some x → w'.cell? ⟨g, k, none⟩ = some x := by
  subst hsize
  subst hby
  intro g k x hv hx
  rcases hown.2 with ⟨rfl, _⟩ | ⟨g', cap, cur, rfl, hbg, hg, hnc, hcm, hcs, htake⟩
  · cases hv
  · have hgg : g' = g := by simpa [Value.ownBlock] using hv
    subst hgg
    have hk : k < xs.length := (List.getElem?_eq_some_iff.1 hx).1
    have hold : w.cell? ⟨g', k, none⟩ = some x := by
      have := hown.cells (g := g') rfl k x hx
      have ha : (⟨g', 0, none⟩ : Addr).add k = ⟨g', k, none⟩ := by unfold Addr.add; split <;> simp_all
      rwa [ha] at this
    by_cases hroom : n + m ≤ cap
    · have hfit : n * i.size + news.length ≤ cur.size := by rw [hl, hcs, ← Nat.add_mul]; exact Nat.mul_le_mul_right _ hroom
      have hr := run_append_room (P := P) w t ty e i ht hi g' n cap cur hg a m c news hl hnews h1 hroom hfit
      rw [hr] at hrun
      simp only [Result.ok.injEq] at hrun
      obtain ⟨_, rfl⟩ := hrun
      rw [cell_of_row _ g' k _ e _ (setRow_heap w g' cur _ e _ hg)]
      simp only [List.getElem?_toArray, List.append_assoc]
      rw [htake, List.getElem?_append_left hk, hx]
    · have holds : ∀ j u, xs[j]? = some u → w.cell? ((⟨g', 0, none⟩ : Addr).add j) = some u := hown.cells (g := g') rfl
      have hr := run_append_grow (P := P) w t ty e i z ht hi hz ⟨g', 0, none⟩ n cap xs hown.1 holds a m c news hl hnews (by omega) (by simp only [maxLen] at h63; omega) (growslice_fits (by omega) hbytes)
      rw [hr] at hrun
      simp only [Result.ok.injEq] at hrun
      obtain ⟨_, rfl⟩ := hrun
      have hlt := World.block_lt_of_cell? _ _ hold
      rw [World.cell?_of_block (a := ⟨g', k, none⟩) (heap_alloc_old w.drew _ hlt)]
      exact hold
theorem step_app2 {P : Program} {ops : Array Oper} {o : Oper} {a : Act} {K : Act → World → Prop} {Q : Exit → Act → World → Prop} {F : Prop} {w0 W W2 : World} (base : Nat) (hgd : o.guard = none) (s x : Operand) (t e : TypeId) (z : Value) (sz by_ : Nat)
    (ho : o.op = .call { callee := .builtin .append, args := #[s, x], argTypes := #[t, t] })
    (ht : P.underlying t = some (.slice e)) (hinfo : (P.info? e).map (fun i => (i.zero, i.size, i.bytes)) = some (some z, sz, by_)) (hz : z.cells.size = sz) (hsz : 0 < sz) (hb0 : 0 < by_)
    {A : Option Addr} {n c : Nat} (xs : List Value) (hs : a.eval s = .slice A n c) (m c2 : Nat) (news : List Value) (hx : a.eval x = .slice (some ⟨W.heap.size, 0, none⟩) m c2) (hl : news.length = m * sz) (h1 : ∀ u ∈ news, u.oneCell' = true)
    (hW2 : Below (W.heap.size + 1) (W.alloc (.cells news.toArray e)) W2 ∧ W2.heap.size = W.heap.size + 1)
    (O : W.ownsRow base e sz (.slice A n c) n xs) (HB : Below base w0 W) (hbase : base ≤ W.heap.size) (hm : 0 < m) (hlen : (n + m) * by_ ≤ 140737488355328)
    (h : ∀ A' c' w1, w1.ownsRow base e sz (.slice A' (n + m) c') (n + m) (xs ++ news) → Below base w0 w1 → W.grownBy w1 (Value.ownBlock (.slice A n c)) → (∀ g k x, Value.ownBlock (.slice A n c) = some g → xs[k]? = some x → w1.cell? ⟨g, k, none⟩ = some x) → K (a.put o.dst (.slice A' (n + m) c')) w1) :
    if Region.wanted o (yielded ops a.tmps) = true then Oper.wp P o a W2 K Q else F := by
  obtain ⟨i0, hi, hzz⟩ := Option.map_eq_some_iff.1 hinfo
  simp only [Prod.mk.injEq] at hzz
  obtain ⟨hz0, hz1, hz2⟩ := hzz
  have hle : n + m ≤ 140737488355328 := Nat.le_trans (Nat.le_mul_of_pos_right _ hb0) hlen
  have hr : Row (W.alloc (.cells news.toArray e)) W.heap.size e news := Row.alloc W news e
  have hr2 : Row W2 W.heap.size e news := (hW2.1.block _ (by omega)).trans hr
  have hbW : Below W.heap.size W W2 := below_then (below_alloc1 W (.cells news.toArray e)) (by simp) ⟨hW2.1.os, hW2.1.tape, hW2.1.output, hW2.1.size, fun i hi => hW2.1.block i (by simpa using hi)⟩
  have O2 : W2.ownsRow base e sz (.slice A n c) n xs := own_below O hbW
  have HB2 : Below base w0 W2 := below_then HB hbase hbW
  have hnews : ∀ j u, news[j]? = some u → W2.cell? ((⟨W.heap.size, 0, none⟩ : Addr).add j) = some u := fun j u hu => by
    have ha : (⟨W.heap.size, 0, none⟩ : Addr).add j = ⟨W.heap.size, j, none⟩ := by unfold Addr.add; split <;> simp_all
    rw [ha, hr2.cell]; exact hu
  have hw : Region.wanted o (yielded ops a.tmps) = true := by simp [Region.wanted, hgd]
  rw [if_pos hw]
  obtain ⟨g, cap, w1, hrun, k2, k3, k4, k5⟩ := run_append_lies (P := P) W2 t o.type base e i0 z sz by_ ht hi hz0 hz1 hz2 hz hsz (.slice A n c) n xs O2 ⟨W.heap.size, 0, none⟩ m c2 news hl hnews h1 hm (by simp only [maxLen]; omega) hlen (by rw [hW2.2]; omega) _ rfl
  have hkeep := append_old (P := P) W2 base t o.type e i0 z sz by_ ht hi hz0 hz1 hz2 hsz (.slice A n c) n xs O2 ⟨W.heap.size, 0, none⟩ m c2 news hl hnews h1 (by simp only [maxLen]; omega) hlen hrun
  unfold Oper.wp execOp
  simp only [ho, resolve, invoke, builtin, Sem.run_bind, Sem.run_pure, Result.andThen_ok, List.map_toArray, List.map_cons, List.map_nil, hs, hx, hrun]
  refine h _ _ w1 k2 (HB2.grown k3 (by rw [hW2.2]; omega) (fun k hk => (own_base O2 k hk).1)) (grown_trans ⟨hbW.os, hbW.tape, hbW.output, hbW.size, fun k hk _ => hbW.block k hk⟩ k3) hkeep
end Go.Proofs.Ytkiocmbiahbboaa
