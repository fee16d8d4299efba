/- Contract: impl.ReadFleeces. -/
import Derived.Test.YtbkhlcbnnjgdpaaGreatDoorJ5
namespace Go.Proofs.YtbkhlcbnnjgdpaaGreatDoor
open Go.RowKit
set_option linter.unusedVariables false
set_option linter.unusedSimpArgs false
attribute [local go_sem] Oper.semAt_some
theorem lines_seq (n bs : Nat) (s : ByteArray) (hs : s.size ≤ 1048576) (w : World) (hb : Boxed w bs 9 (.string s)) :
    SeqVar Fence.wide n Tryz.prog 64 #[.pointer (some ⟨bs, 0, none⟩)] (fun x : ByteArray => #[.string x]) (fun xs => xs = lnB s) (fun pre => pre <+: lnB s) bs w := fun l J Jx W hW hJ hJx hY h0 =>
  lines1_in n l bs s hs J Jx (Lib.hid hJ) (Lib.hid hJx) hY W (show W.heap[bs]? = _ from hW.trans hb) h0
theorem infoFl : (Tryz.prog.info? 58).map (fun i => (i.zero, i.size, i.bytes)) = some (some (.agg #[.int .i8 0, .int .i32 0, .int .i32 0, .int .i32 0, .int .i32 0, .int .i32 0, .int .i32 0, .int .i32 0, .int .i32 0]), 9, 36) := by kernel_rfl
/-- Whatever is no cells lies as it lay where nothing that lay has turned. -/
theorem keeps_below {A B : World} (h : Below A.heap.size A B) : KeepsOthers A B := ⟨h.size, fun k o hk _ => (h.block k (Array.getElem?_eq_some_iff.1 hk).1).trans hk⟩
def rdX (pre : List ByteArray) : List (Int × List Int) := pre.map fun x => rdV x.data.toList
theorem rdX_snoc (pre : List ByteArray) (x : ByteArray) : (rdX (pre ++ [x])).flatMap FlC = (rdX pre).flatMap FlC ++ FlC (rdV x.data.toList) := by simp [rdX]
theorem boxed_below {W W' : World} {b : Nat} {t : TypeId} {v : Value} (h : Boxed W b t v) (hb : Below W.heap.size W W') : Boxed W' b t v := (hb.block b h.lt).trans h
theorem own_cells {W : World} {base E sz n : Nat} {v : Value} {xs : List Value} (O : W.ownsRow base E sz v n xs) : ∀ (j : Nat) (o : Obj), v.ownBlock = some j → W.heap[j]? = some o → o.isCells = true := by
  intro j o ej hj
  rcases O.2 with ⟨rfl, _⟩ | ⟨g, cap, cur, rfl, _, hgb, _⟩
  · simp [Value.ownBlock] at ej
  · obtain rfl : g = j := by simpa [Value.ownBlock] using ej
    rw [hgb] at hj
    cases hj
    rfl
theorem row_cells (W : World) (L : List Value) (E : TypeId) : ∀ j u, L[j]? = some u → (W.alloc (.cells L.toArray E)).cell? ((⟨W.heap.size, 0, none⟩ : Addr).add j) = some u := fun j u hu => by
  have ha : (⟨W.heap.size, 0, none⟩ : Addr).add j = ⟨W.heap.size, j, none⟩ := by unfold Addr.add; split <;> simp_all
  rw [ha, (Row.alloc W L E).cell]
  exact hu
theorem boxed_put {W : World} {b l : Nat} {t : TypeId} {v : Value} {o : Obj} (o' : Obj) (h : Boxed W b t v) (hl : W.heap[l]? = some o) (ho : o.isCells = false) : Boxed (W.putObj l o') b t v :=
  h.kept (grownBy_putObj' W l o') (fun e => by
    injection e with e
    subst e
    rw [show W.heap[b]? = _ from h] at hl
    cases hl
    cases ho)
theorem below_put {B l : Nat} {w W : World} (o' : Obj) (h : Below B w W) (hl : B ≤ l) (hB : B ≤ w.heap.size) : Below B w (W.putObj l o') :=
  h.grown (grownBy_putObj' W l o') (Nat.le_trans hB h.size) (fun k e => by cases e; exact hl)
theorem res2c (t : Array Value) (w : World) (b : Nat) {v2 v3 : Value} (h2 : t[2]?.getD undef = .pointer (some ⟨b, 0, none⟩)) (h3 : t[3]?.getD undef = .pointer (some ⟨b + 1, 0, none⟩)) (c2 : w.cell? ⟨b, 0, none⟩ = some v2) (c3 : w.cell? ⟨b + 1, 0, none⟩ = some v3) :
    (results Tryz.f15 t).run Tryz.prog w = .ok (.tuple #[v2, v3]) w := by
  simp [results, Tryz.results15, go_sem, h2, h3, c2, c3]
/-- At the end: two results stored, the block of the deferred calls shut. -/
theorem rf_leave {w W X : World} {D : Nat} {t2 t3 : TypeId} {u2 u3 : Value} (hK : W.heap[D]? = some (.deferred (some []))) (hb : Below W.heap.size W X) (h2 : Boxed W w.heap.size t2 u2) (h3 : Boxed W (w.heap.size + 1) t3 u3) (hB : Below w.heap.size w W) (hD : w.heap.size ≤ D) (v2 v3 : Value) :
    ((X.setCell ⟨w.heap.size, 0, none⟩ v2).setCell ⟨w.heap.size + 1, 0, none⟩ v3).heap[D]? = some (.deferred (some [])) ∧
    Boxed (((X.setCell ⟨w.heap.size, 0, none⟩ v2).setCell ⟨w.heap.size + 1, 0, none⟩ v3).putObj D (.deferred none)) w.heap.size t2 v2 ∧
    Boxed (((X.setCell ⟨w.heap.size, 0, none⟩ v2).setCell ⟨w.heap.size + 1, 0, none⟩ v3).putObj D (.deferred none)) (w.heap.size + 1) t3 v3 ∧
    Below w.heap.size w (((X.setCell ⟨w.heap.size, 0, none⟩ v2).setCell ⟨w.heap.size + 1, 0, none⟩ v3).putObj D (.deferred none)) := by
  have k0 : X.heap[D]? = some (.deferred (some [])) := (hb.block D (Array.getElem?_eq_some_iff.1 hK).1).trans hK
  have k1 := ((KeepsOthers.setCell X ⟨w.heap.size, 0, none⟩ v2).trans (KeepsOthers.setCell _ ⟨w.heap.size + 1, 0, none⟩ v3)).same D _ k0 rfl
  have b2 : Boxed ((X.setCell ⟨w.heap.size, 0, none⟩ v2).setCell ⟨w.heap.size + 1, 0, none⟩ v3) w.heap.size t2 v2 := ((boxed_below h2 hb).set v2).kept (grownBy_setCell' _ _ _) (by simp)
  have b3 : Boxed ((X.setCell ⟨w.heap.size, 0, none⟩ v2).setCell ⟨w.heap.size + 1, 0, none⟩ v3) (w.heap.size + 1) t3 v3 := ((boxed_below h3 hb).kept (grownBy_setCell' _ _ _) (by simp)).set v3
  exact ⟨k1, boxed_put _ b2 k1 rfl, boxed_put _ b3 k1 rfl, below_put _ (((below_then hB hB.size hb).setCell (p := ⟨w.heap.size, 0, none⟩) (Nat.le_refl _) v2).setCell (p := ⟨w.heap.size + 1, 0, none⟩) (by simp) v3) hD (Nat.le_refl _)⟩
theorem own_leave {X : World} {D b base E sz n : Nat} {v v2 v3 : Value} {L : List Value} (O : X.ownsRow base E sz v n L) (hK : ((X.setCell ⟨b, 0, none⟩ v2).setCell ⟨b + 1, 0, none⟩ v3).heap[D]? = some (.deferred (some []))) (hb : b + 1 < base) :
    (((X.setCell ⟨b, 0, none⟩ v2).setCell ⟨b + 1, 0, none⟩ v3).putObj D (.deferred none)).ownsRow base E sz v n L := by
  refine ownsRow_putObj ?_ _ hK rfl
  refine (O.kept (grownBy_setCell' _ _ _) (.inr fun e => ?_)).kept (grownBy_setCell' _ _ _) (.inr fun e => ?_)
  · have := (own_base O _ e).1; omega
  · have := (own_base O _ e).1; omega
/-- Between two rounds. -/
def RfI (s : ByteArray) (w : World) (pre : List ByteArray) (W : World) : Prop :=
  ∃ A c, Boxed W (w.heap.size + 1 + 1) 27 (.slice A pre.length c) ∧ W.ownsRow (w.heap.size + 1 + 1 + 1 + 1) 58 9 (.slice A pre.length c) pre.length ((rdX pre).flatMap FlC) ∧ (∀ x ∈ pre, rdOk x.data.toList = true) ∧ pre.length ≤ 6 ∧ pre <+: lnB s ∧ Boxed W w.heap.size 27 (.slice none 0 0) ∧ Boxed W (w.heap.size + 1) 2 (.int .i64 0) ∧ Below w.heap.size w W ∧ w.heap.size + 1 + 1 + 1 + 1 ≤ W.heap.size
/-- Where a round has left. -/
def RfX (s : ByteArray) (w : World) (c : Code) (pre : List ByteArray) (W : World) : Prop :=
  c = .ret ∧ rfK s.data.toList = false ∧ Boxed W w.heap.size 27 (.slice none 0 0) ∧ Boxed W (w.heap.size + 1) 2 (.int .i64 5) ∧ Below w.heap.size w W
theorem RfI_on (s : ByteArray) (w : World) (B : Nat) (hB : w.heap.size ≤ B) : OnVarFrom (w.heap.size + 1 + 1 + 1) B (RfI s w) := by
  constructor
  · rintro pre X Y ⟨A, c, h1, h2, h3, h4, h5, h6, h7, h8, h9⟩ hg
    refine ⟨A, c, h1.kept hg (by simp), h2.kept hg (.inr fun e => ?_), h3, h4, h5, h6.kept hg (by simp; omega), h7.kept hg (by simp), h8.grown hg (by exact h8.size) (fun k e => by cases e; omega), Nat.le_trans h9 hg.size⟩
    have := (own_base h2 _ e).1
    omega
  · rintro pre X l ob o' ⟨A, c, h1, h2, h3, h4, h5, h6, h7, h8, h9⟩ hl ho hc
    exact ⟨A, c, boxed_put o' h1 ho hc, ownsRow_putObj h2 o' ho hc, h3, h4, h5, boxed_put o' h6 ho hc, boxed_put o' h7 ho hc, below_put o' h8 (by omega) (Nat.le_refl _), by rw [World.putObj_size]; exact h9⟩
theorem RfX_on (s : ByteArray) (w : World) (B : Nat) (hB : w.heap.size ≤ B) (c : Code) : OnVarFrom (w.heap.size + 1 + 1 + 1) B (RfX s w c) := by
  constructor
  · rintro pre X Y ⟨h1, h2, h6, h7, h8⟩ hg
    exact ⟨h1, h2, h6.kept hg (by simp; omega), h7.kept hg (by simp), h8.grown hg (by exact h8.size) (fun k e => by cases e; omega)⟩
  · rintro pre X l ob o' ⟨h1, h2, h6, h7, h8⟩ hl ho hc
    exact ⟨h1, h2, boxed_put o' h6 ho hc, boxed_put o' h7 ho hc, below_put o' h8 (by omega) (Nat.le_refl _)⟩
theorem lnB_size {s x : ByteArray} (h : x ∈ lnB s) : x.size ≤ s.size := by
  have go : ∀ l : List UInt8, ∀ y ∈ lns l, y.length ≤ l.length := by
    intro l
    induction l with
    | nil => intro y hy; simp [lns] at hy
    | cons a r ih =>
      intro y hy
      rw [lns] at hy
      by_cases ha : a = 10
      · rw [if_pos ha] at hy
        rcases List.mem_cons.1 hy with rfl | hy
        · simp
        · have := ih y hy; rw [List.length_cons]; omega
      · rw [if_neg ha] at hy
        cases hr : lns r with
        | nil => rw [hr] at hy; simp at hy; subst hy; simp
        | cons b t =>
          rw [hr] at hy ih
          rcases List.mem_cons.1 hy with rfl | hy
          · have := ih b (by simp); rw [List.length_cons, List.length_cons]; omega
          · have := ih y (by simp [hy]); rw [List.length_cons]; omega
  obtain ⟨y, hy, rfl⟩ := List.mem_map.1 h
  have := go _ y hy
  rw [str_len] at this
  rw [← str_len]
  simpa [btx] using this
theorem lnB_data (s : ByteArray) : (lnB s).map (·.data.toList) = lns s.data.toList := by
  unfold lnB
  rw [List.map_map]
  exact map_self2 fun l _ => by simp [btx]
theorem rf_bad {s x : ByteArray} {pre : List ByteArray} (h : (pre ++ [x]) <+: lnB s) (hx : rdOk x.data.toList = false) : rfK s.data.toList = false := by
  cases hk : rfK s.data.toList
  · rfl
  · have hm : x ∈ lnB s := h.subset (by simp)
    have := rf_line hk (by rw [← lnB_data]; exact List.mem_map_of_mem hm)
    rw [hx] at this
    cases this
theorem rf_full {s x : ByteArray} {pre : List ByteArray} (h : (pre ++ [x]) <+: lnB s) (hp : pre.length = 6) : rfK s.data.toList = false := by
  cases hk : rfK s.data.toList
  · rfl
  · have h1 := rf_six hk
    have h2 := h.length_le
    rw [← lnB_data, List.length_map] at h1
    rw [List.length_append] at h2
    simp at h2
    omega
set_option maxRecDepth 100000 in
set_option maxHeartbeats 4000000 in
theorem iReadFleeces (B : Nat) (s : ByteArray) (w : World) (E : Env B w) (hBw : B ≤ w.heap.size) (hs : s.size ≤ 1048576) :
    Calls Tryz.prog 15 #[.string s] w (RetOwnT 58 9 (rfR s.data.toList).length ((rfR s.data.toList).flatMap FlC) [.int .i64 (rfC s.data.toList)] w) := by
  have HE := Lib.hid E
  clear E
  obtain ⟨i0, hi, hz0, hz1, hz2⟩ := info_parts infoFl
  have HI := Lib.hid hi; clear hi
  refine (callsIn_wide (n := 3)).1 ?_
  refine callsIn_of_wp_marks Tryz.func15 rfl trivial ?_ rfl
  simp only [Tryz.ntmps15, List.size_toArray, List.length_cons, List.length_nil, Nat.reduceAdd, Nat.reduceSub, Array.replicate_succ, Array.replicate_zero, List.push_toArray, List.append_toArray, List.nil_append, List.cons_append]
  gi_wp2_with (refine ⟨trivial, ?_⟩; gi_at_call 45; refine (callsIn_wide.2 (lines_any s _)).mono ?_; rintro e w' ⟨rfl, rfl⟩)
  have b2 : Boxed ((((w.alloc (.cells #[.slice none 0 0] 27)).alloc (.cells #[.int .i64 0] 2)).alloc (.cells #[.slice none 0 0] 27)).alloc (.cells #[.string s] 9)) w.heap.size 27 (.slice none 0 0) := (((Boxed.new w 27 (.slice none 0 0)).alloc _).alloc _).alloc _
  have b3 : Boxed ((((w.alloc (.cells #[.slice none 0 0] 27)).alloc (.cells #[.int .i64 0] 2)).alloc (.cells #[.slice none 0 0] 27)).alloc (.cells #[.string s] 9)) (w.heap.size + 1) 2 (.int .i64 0) := by
    have := ((Boxed.new (w.alloc (.cells #[.slice none 0 0] 27)) 2 (.int .i64 0)).alloc (.cells #[.slice none 0 0] 27)).alloc (.cells #[.string s] 9)
    simpa only [World.size_alloc] using this
  have b4 : Boxed ((((w.alloc (.cells #[.slice none 0 0] 27)).alloc (.cells #[.int .i64 0] 2)).alloc (.cells #[.slice none 0 0] 27)).alloc (.cells #[.string s] 9)) (w.heap.size + 1 + 1) 27 (.slice none 0 0) := by
    have := (Boxed.new ((w.alloc (.cells #[.slice none 0 0] 27)).alloc (.cells #[.int .i64 0] 2)) 27 (.slice none 0 0)).alloc (.cells #[.string s] 9)
    simpa only [World.size_alloc] using this
  have b5 : Boxed ((((w.alloc (.cells #[.slice none 0 0] 27)).alloc (.cells #[.int .i64 0] 2)).alloc (.cells #[.slice none 0 0] 27)).alloc (.cells #[.string s] 9)) (w.heap.size + 1 + 1 + 1) 9 (.string s) := by
    have := Boxed.new (((w.alloc (.cells #[.slice none 0 0] 27)).alloc (.cells #[.int .i64 0] 2)).alloc (.cells #[.slice none 0 0] 27)) 9 (.string s)
    simpa only [World.size_alloc] using this
  have hW : Below w.heap.size w ((((w.alloc (.cells #[.slice none 0 0] 27)).alloc (.cells #[.int .i64 0] 2)).alloc (.cells #[.slice none 0 0] 27)).alloc (.cells #[.string s] 9)) := by go_grown
  have hz : ((((w.alloc (.cells #[.slice none 0 0] 27)).alloc (.cells #[.int .i64 0] 2)).alloc (.cells #[.slice none 0 0] 27)).alloc (.cells #[.string s] 9)).heap.size = w.heap.size + 1 + 1 + 1 + 1 := by simp only [World.size_alloc]
  obtain ⟨W0, hW0⟩ : ∃ W0, W0 = ((((w.alloc (.cells #[.slice none 0 0] 27)).alloc (.cells #[.int .i64 0] 2)).alloc (.cells #[.slice none 0 0] 27)).alloc (.cells #[.string s] 9)) := ⟨_, rfl⟩
  rw [← hW0] at b2 b3 b4 b5 hW hz ⊢
  clear hW0
  refine rangeVar rfl (by omega) (gf := 64) (lb := #[.pointer (some ⟨w.heap.size + 1 + 1 + 1, 0, none⟩)]) rfl trivial (enters_of Tryz.func64 rfl (by decide)) (bs := w.heap.size + 1 + 1 + 1) (by omega) (lines_seq (3 - 1) _ s hs W0 b5) (fun _ => rfl)
    (RfI s w) (RfX s w) (RfI_on s w _ (by omega)) (RfX_on s w _ (by omega)) ⟨none, 0, b4, World.ownsRow_nil _ _ _ _, (by intro x hx; cases hx), (by simp), ⟨_, rfl⟩, b2, b3, hW, by omega⟩
    (fun x => { tmps := #[.string s, undef, .pointer (some ⟨w.heap.size, 0, none⟩), .pointer (some ⟨w.heap.size + 1, 0, none⟩), .pointer (some ⟨w.heap.size + 1 + 1, 0, none⟩), .string x, undef, undef, .string s, .func (.func 64) #[] #[.pointer (some ⟨w.heap.size + 1 + 1 + 1, 0, none⟩)], .string x, undef, undef, undef, undef, undef, undef, undef, undef, undef, undef, undef, undef, undef, undef, undef, undef, undef, undef, undef, undef, undef, undef, undef, undef, undef, undef], defers := [] }) ?assign ?body ?done ?stop
  case assign =>
    intro l x W K hK
    gi_wp2
    exact hK
  case body =>
    rintro l pre x W ⟨A, c, hl, hO, hall, h6, hpf, h2, h3, hB, hge⟩ hpre
    have hx : x.size ≤ 1048576 := Nat.le_trans (lnB_size (hpre.subset (by simp))) hs
    have hcl := hl.cell
    have HGE := Lib.hid hge; clear hge
    have HPRE := Lib.hid hpre; have HPF := Lib.hid hpf; have HO := Lib.hid hO; have HALL := Lib.hid hall; have HH := Lib.hid hB; have HL := Lib.hid hl; have H2 := Lib.hid h2; have H3 := Lib.hid h3
    clear b2 b3 b4 b5 hW hz hpre hpf hO hall hB hl h2 h3
    gi_wp2
    refine ⟨trivial, (CallsIn.inRound l (callsIn_wide.2 (iReadFleece B x W (HE.out.on (HH.out.mono hBw)) (Nat.le_trans hBw HH.out.size) hx))).mono ?_⟩
    rintro e W5 ⟨f, a0, a1, a2, a3, a4, a5, a6, a7, rfl, hval, hb5⟩
    clear hcl
    have hl := boxed_below HL.out hb5
    have h2 := boxed_below H2.out hb5
    have h3 := boxed_below H3.out hb5
    have hO := Lib.hid (own_below HO.out hb5)
    have HB5 := Lib.hid (below_then HH.out HH.out.size hb5)
    have HK5 := Lib.hid (keeps_below hb5)
    have HZ := Lib.hid hb5.size
    have HLW := Lib.hid HL.out.lt
    have HH5 := Lib.hid hb5
    clear hb5 HL H2 H3 HO
    have hl6 := Lib.hid (hl.alloc (.cells #[.int .i8 f, .int .i32 a0, .int .i32 a1, .int .i32 a2, .int .i32 a3, .int .i32 a4, .int .i32 a5, .int .i32 a6, .int .i32 a7] 58))
    have h26 := Lib.hid (h2.alloc (.cells #[.int .i8 f, .int .i32 a0, .int .i32 a1, .int .i32 a2, .int .i32 a3, .int .i32 a4, .int .i32 a5, .int .i32 a6, .int .i32 a7] 58))
    have h36 := Lib.hid (h3.alloc (.cells #[.int .i8 f, .int .i32 a0, .int .i32 a1, .int .i32 a2, .int .i32 a3, .int .i32 a4, .int .i32 a5, .int .i32 a6, .int .i32 a7] 58))
    have hcl := hl.cell
    have hfl := hl.frozen
    have hc2 := h2.cell
    have hf2 := h2.frozen
    have hc3 := h3.cell
    have hf3 := h3.frozen
    have hl1 := hl.lt
    have hlt2 := h2.lt
    have hlt3 := h3.lt
    have H25 := Lib.hid h2; have H35 := Lib.hid h3
    clear hl h2 h3
    have LEAVE : rfK s.data.toList = false → KeepsOthers W (((W5.setCell ⟨w.heap.size, 0, none⟩ (.slice none 0 0)).setCell ⟨w.heap.size + 1, 0, none⟩ (.int .i64 5)).alloc (.cells #[.int .i8 f, .int .i32 a0, .int .i32 a1, .int .i32 a2, .int .i32 a3, .int .i32 a4, .int .i32 a5, .int .i32 a6, .int .i32 a7] 58)) ∧ RfX s w .ret (pre ++ [x]) (((W5.setCell ⟨w.heap.size, 0, none⟩ (.slice none 0 0)).setCell ⟨w.heap.size + 1, 0, none⟩ (.int .i64 5)).alloc (.cells #[.int .i8 f, .int .i32 a0, .int .i32 a1, .int .i32 a2, .int .i32 a3, .int .i32 a4, .int .i32 a5, .int .i32 a6, .int .i32 a7] 58)) := fun hk => by
      refine ⟨((HK5.out.trans (KeepsOthers.setCell _ _ _)).trans (KeepsOthers.setCell _ _ _)).trans (KeepsOthers.alloc _ _), rfl, hk, ?_, ?_, ?_⟩
      · exact ((H25.out.set _).kept (grownBy_setCell' _ _ _) (by simp)).alloc _
      · exact ((H35.out.kept (grownBy_setCell' _ _ _) (by simp)).set _).alloc _
      · have e1 := (HB5.out.setCell (p := ⟨w.heap.size, 0, none⟩) (Nat.le_refl _) (.slice none 0 0)).setCell (p := ⟨w.heap.size + 1, 0, none⟩) (by simp) (.int .i64 5)
        exact e1.alloc e1.size _
    have HLV := Lib.hid LEAVE
    clear LEAVE
    cases hok : rdOk x.data.toList
    · have HBAD := Lib.hid (rf_bad HPRE.out hok)
      clear hok hval
      gi_wp2
      exact HLV.out HBAD.out
    · by_cases hp6 : pre.length = 6
      · have HFULL := Lib.hid (rf_full HPRE.out hp6)
        have hp6i : ((pre.length : Int) == 6) = true := by rw [beq_iff_eq]; omega
        clear hok hval
        gi_wp2
        exact HLV.out HFULL.out
      · have hp6i : ((pre.length : Int) == 6) = false := by rw [beq_eq_false_iff_ne]; omega
        have HVAL := Lib.hid (hval hok)
        have HOK := Lib.hid hok
        have hle5 : pre.length ≤ 5 := by omega
        clear hok hval HLV hp6 h6 H25 H35
        have OO : Hid (((W5.alloc (.cells #[.int .i8 f, .int .i32 a0, .int .i32 a1, .int .i32 a2, .int .i32 a3, .int .i32 a4, .int .i32 a5, .int .i32 a6, .int .i32 a7] 58)).alloc (.cells #[.int .i8 f, .int .i32 a0, .int .i32 a1, .int .i32 a2, .int .i32 a3, .int .i32 a4, .int .i32 a5, .int .i32 a6, .int .i32 a7] 58)).ownsRow (w.heap.size + 1 + 1 + 1 + 1) 58 9 (.slice A pre.length c) pre.length ((rdX pre).flatMap FlC)) := Lib.hid ((hO.out.alloc _).alloc _)
        have CN : Hid (∀ j u, [.int .i8 f, .int .i32 a0, .int .i32 a1, .int .i32 a2, .int .i32 a3, .int .i32 a4, .int .i32 a5, .int .i32 a6, .int .i32 a7][j]? = some u → ((W5.alloc (.cells #[.int .i8 f, .int .i32 a0, .int .i32 a1, .int .i32 a2, .int .i32 a3, .int .i32 a4, .int .i32 a5, .int .i32 a6, .int .i32 a7] 58)).alloc (.cells #[.int .i8 f, .int .i32 a0, .int .i32 a1, .int .i32 a2, .int .i32 a3, .int .i32 a4, .int .i32 a5, .int .i32 a6, .int .i32 a7] 58)).cell? ((⟨W5.heap.size + 1, 0, none⟩ : Addr).add j) = some u) := Lib.hid (by
          have := row_cells (W5.alloc (.cells #[.int .i8 f, .int .i32 a0, .int .i32 a1, .int .i32 a2, .int .i32 a3, .int .i32 a4, .int .i32 a5, .int .i32 a6, .int .i32 a7] 58)) [.int .i8 f, .int .i32 a0, .int .i32 a1, .int .i32 a2, .int .i32 a3, .int .i32 a4, .int .i32 a5, .int .i32 a6, .int .i32 a7] 58
          simpa only [World.size_alloc] using this)
        have hbase : w.heap.size + 1 + 1 + 1 + 1 ≤ W5.heap.size := Nat.le_trans HGE.out HZ.out
        gi_wp2_with (gi_at_builtin; refine wpListIn_append_own _ rfl _ _ 27 rfl (w.heap.size + 1 + 1 + 1 + 1) 58 i0 (.agg #[.int .i8 0, .int .i32 0, .int .i32 0, .int .i32 0, .int .i32 0, .int .i32 0, .int .i32 0, .int .i32 0, .int .i32 0]) 9 36 Tryz.underlying27 HI.out hz0 hz1 hz2 rfl (by decide) (.slice A pre.length c) pre.length ((rdX pre).flatMap FlC) rfl OO.out ⟨W5.heap.size + 1, 0, none⟩ 1 1 [.int .i8 f, .int .i32 a0, .int .i32 a1, .int .i32 a2, .int .i32 a3, .int .i32 a4, .int .i32 a5, .int .i32 a6, .int .i32 a7] rfl rfl CN.out (by simp [Value.oneCell']) (by simp only [maxLen]; omega) (by omega) (by simp only [World.size_alloc]; omega) ?_; intro v1 w1 hown' hgrow _; obtain ⟨g', cap', rfl⟩ := ownsRow_succ hown'; have hnb : some (w.heap.size + 1 + 1) ≠ Value.ownBlock (.slice A pre.length c) := (fun e => by have := (own_base OO.out _ e.symm).1; omega); have hv1 := (hl6.out.alloc _).kept hgrow hnb; have hc1 := hv1.cell; have hf1 := hv1.frozen; have HV1 := Lib.hid hv1; have HG := Lib.hid hgrow; have HOW := Lib.hid hown'; clear hv1 hgrow hown')
        have hne2 : some (w.heap.size) ≠ Value.ownBlock (.slice A pre.length c) := (fun e => by have := (own_base OO.out _ e.symm).1; omega)
        have hne3 : some (w.heap.size + 1) ≠ Value.ownBlock (.slice A pre.length c) := (fun e => by have := (own_base OO.out _ e.symm).1; omega)
        have hnes : some (w.heap.size + 1 + 1 + 1) ≠ Value.ownBlock (.slice A pre.length c) := (fun e => by have := (own_base OO.out _ e.symm).1; omega)
        have hlen : (pre ++ [x]).length = pre.length + 1 := by simp
        refine ⟨?_, ?_, some ⟨g', 0, none⟩, cap', ?_, ?_, ?_, by omega, HPRE.out, ?_, ?_, ?_, ?_⟩
        · exact (((HK5.out.trans (KeepsOthers.alloc _ _)).trans (KeepsOthers.alloc _ _)).trans (KeepsOthers.of_grownBy HG.out (own_cells OO.out))).trans (KeepsOthers.setCell _ _ _)
        · have e1 : ((W5.alloc (.cells #[.int .i8 f, .int .i32 a0, .int .i32 a1, .int .i32 a2, .int .i32 a3, .int .i32 a4, .int .i32 a5, .int .i32 a6, .int .i32 a7] 58)).alloc (.cells #[.int .i8 f, .int .i32 a0, .int .i32 a1, .int .i32 a2, .int .i32 a3, .int .i32 a4, .int .i32 a5, .int .i32 a6, .int .i32 a7] 58)).heap[w.heap.size + 1 + 1 + 1]? = W5.heap[w.heap.size + 1 + 1 + 1]? := by
            rw [Below.heap_alloc _ _ _ (by rw [World.size_alloc]; omega), Below.heap_alloc _ _ _ (by omega)]
          exact (((Below.heap_setCell w1 _ _ _ (by simp)).trans (HG.out.block _ (by simp only [World.size_alloc]; omega) hnes)).trans e1).trans (HH5.out.block _ (by have := HGE.out; omega))
        · rw [hlen]
          exact HV1.out.set _
        · rw [hlen, rdX_snoc, ← HVAL.out]
          have := HOW.out.kept (grownBy_setCell' w1 (w.heap.size + 1 + 1) (.slice (some ⟨g', 0, none⟩) (pre.length + 1) cap')) (.inr (fun e => by have := (own_base HOW.out _ e).1; omega))
          simpa [FlC, nums] using this
        · intro y hy
          rcases List.mem_append.1 hy with hy | hy
          · exact HALL.out y hy
          · obtain rfl := List.mem_singleton.1 hy
            exact HOK.out
        · exact (((h26.out.alloc _).kept HG.out hne2)).kept (grownBy_setCell' _ _ _) (by simp; omega)
        · exact (((h36.out.alloc _).kept HG.out hne3)).kept (grownBy_setCell' _ _ _) (by simp)
        · have e1 := HB5.out.alloc HB5.out.size (.cells #[.int .i8 f, .int .i32 a0, .int .i32 a1, .int .i32 a2, .int .i32 a3, .int .i32 a4, .int .i32 a5, .int .i32 a6, .int .i32 a7] 58)
          have e2 := e1.alloc e1.size (.cells #[.int .i8 f, .int .i32 a0, .int .i32 a1, .int .i32 a2, .int .i32 a3, .int .i32 a4, .int .i32 a5, .int .i32 a6, .int .i32 a7] 58)
          have e3 := e2.grown HG.out e2.size (fun k e => by have := (own_base OO.out k e).1; omega)
          exact e3.setCell (p := ⟨w.heap.size + 1 + 1, 0, none⟩) (by simp; omega) _
        · have e3 := HG.out.size
          simp only [World.size_alloc] at e3
          have e4 : (w1.setCell ⟨w.heap.size + 1 + 1, 0, none⟩ (.slice (some ⟨g', 0, none⟩) (pre.length + 1) cap')).heap.size = w1.heap.size := World.size_setCell ..
          omega
  case done =>
    rintro D ys W hD rfl ⟨A, c, hl, hO, hall, h6, hpf, h2, h3, hB, hge⟩ hK
    clear b2 b3 b4 b5 hW hpf
    have hcl := hl.cell
    have hxl : (rdX (lnB s)).length = (lnB s).length := by simp [rdX]
    have hR : Rds W A (lnB s).length 9 FlC (rdX (lnB s)) := own_rds (by exact hO) (fun y hy => by
      obtain ⟨z, hz, rfl⟩ := List.mem_map.1 hy
      have := (rdV_wf (hall z hz)).2.1
      show (_ :: nums .i32 _).length = 9
      rw [List.length_cons, nums_length, this]) (by omega) (by omega)
    have hF : Hid (FlOk (rdX (lnB s))) := Lib.hid (fun y hy => by
      obtain ⟨z, hz, rfl⟩ := List.mem_map.1 hy
      exact rdV_wf (hall z hz))
    have hrd : rdX (lnB s) = (lns s.data.toList).map rdV := by rw [← lnB_data, List.map_map]; rfl
    have HRD := Lib.hid hrd
    obtain ⟨xs, hxs⟩ : ∃ xs, rdX (lnB s) = xs := ⟨_, rfl⟩
    obtain ⟨k, hk⟩ : ∃ k, (lnB s).length = k := ⟨_, rfl⟩
    rw [hxs] at hO hR hF HRD hxl
    rw [hk] at hO hR hcl h6 hxl hl
    have HO := Lib.hid hO; have HR := Lib.hid hR; have HB := Lib.hid hB; have HK := Lib.hid hK; have H2 := Lib.hid h2; have H3 := Lib.hid h3; have HXL := Lib.hid hxl
    have HLL := Lib.hid hl
    clear hO hR hB hK hrd hxs hl hall h2 h3 hxl hk
    gi_wp2
    refine ⟨trivial, (callsIn_wide.2 (iareFleeces A k c xs W HR.out hF)).mono ?_⟩
    rintro e w6 ⟨rfl, hb6⟩
    clear hcl
    cases hq : decide (flC xs true = 0)
    · have hq := of_decide_eq_false hq
      have NO := Lib.hid (rf_no (by cases hkk : rfK s.data.toList <;> first | rfl | (exact absurd (by rw [HRD.out]; exact (rf_back hkk).1) hq)))
      obtain ⟨k1, k2, k3, k4⟩ := rf_leave (X := w6) HK.out hb6 H2.out H3.out HB.out (by omega) (.slice none 0 0) (.int .i64 5)
      have f2 := (boxed_below H2.out hb6).frozen
      have f3 := (boxed_below H3.out hb6).frozen
      have g2 := (boxed_below H2.out hb6).cell
      have g3 := (boxed_below H3.out hb6).cell
      gi_wp2
      refine ⟨trivial, ?_⟩
      gi_wp2
      refine ⟨by simp, .inl ⟨_, _, rfl, run_takeDeferred k1, ?_⟩⟩
      have c2 := k2.cell
      have c3 := k3.cell
      refine ⟨.tuple #[.slice none 0 0, .int .i64 5], res2c _ _ w.heap.size rfl rfl c2 c3, ?_⟩
      rw [NO.out.1, NO.out.2]
      exact ⟨none, 0, rfl, World.ownsRow_nil _ _ _ _, k4⟩
    · have hq := of_decide_eq_true hq
      have HQ := Lib.hid hq
      have hcl := (boxed_below HLL.out hb6).cell
      have HB6 := Lib.hid hb6
      clear hb6 hq
      gi_wp2
      refine ⟨trivial, (callsIn_wide.2 (ifleecesText B A k c xs w6 (HR.out.below HB6.out) hF h6 ((HE.out.on ((HB.out.mono hBw).trans (HB6.out.mono (Nat.le_trans hBw HB.out.size)))).tb) (Nat.le_trans (Nat.le_trans hBw HB.out.size) HB6.out.size))).mono ?_⟩
      rintro e w7 ⟨rfl, hb7⟩
      have hb6 := below_then HB6.out HB6.out.size hb7
      clear hcl hb7 HB6
      cases hq : ((bt (flT xs)).toList == s.toList)
      · have hne : bt (flT xs) ≠ s := by rw [str_eq] at hq; exact of_decide_eq_false hq
        have NO := Lib.hid (rf_no (by cases hkk : rfK s.data.toList <;> first | rfl | (exact absurd (by rw [HRD.out, (rf_back hkk).2]; apply ByteArray.ext; simp [bt]) hne)))
        obtain ⟨k1, k2, k3, k4⟩ := rf_leave (X := w7) HK.out hb6 H2.out H3.out HB.out (by omega) (.slice none 0 0) (.int .i64 5)
        have f2 := (boxed_below H2.out hb6).frozen
        have f3 := (boxed_below H3.out hb6).frozen
        have g2 := (boxed_below H2.out hb6).cell
        have g3 := (boxed_below H3.out hb6).cell
        gi_wp2
        refine ⟨by simp, .inl ⟨_, _, rfl, run_takeDeferred k1, ?_⟩⟩
        have c2 := k2.cell
        have c3 := k3.cell
        refine ⟨.tuple #[.slice none 0 0, .int .i64 5], res2c _ _ w.heap.size rfl rfl c2 c3, ?_⟩
        rw [NO.out.1, NO.out.2]
        exact ⟨none, 0, rfl, World.ownsRow_nil _ _ _ _, k4⟩
      · have heq : bt (flT xs) = s := by rw [str_eq] at hq; exact of_decide_eq_true hq
        have YES := Lib.hid (rf_end (l := s.data.toList) (fun y hy => (hF.out y hy).2.1) HQ.out (by rw [← heq]; simp [bt]))
        obtain ⟨k1, k2, k3, k4⟩ := rf_leave (X := w7) HK.out hb6 H2.out H3.out HB.out (by omega) (.slice A k c) (.int .i64 0)
        have f2 := (boxed_below H2.out hb6).frozen
        have f3 := (boxed_below H3.out hb6).frozen
        have g2 := (boxed_below H2.out hb6).cell
        have g3 := (boxed_below H3.out hb6).cell
        have hcl := (boxed_below HLL.out hb6).cell
        have hlt7 := (boxed_below H2.out hb6).lt
        have OF := Lib.hid (own_leave (own_below HO.out hb6) k1 (v2 := .slice A k c) (v3 := .int .i64 0) (by omega))
        clear hb6
        gi_wp2
        refine ⟨by simp, .inl ⟨_, _, rfl, run_takeDeferred k1, ?_⟩⟩
        have c2 := k2.cell
        have c3 := k3.cell
        refine ⟨.tuple #[.slice A k c, .int .i64 0], res2c _ _ w.heap.size rfl rfl c2 c3, ?_⟩
        rw [YES.out.1, YES.out.2, HXL.out]
        exact ⟨A, c, rfl, own_lower OF.out (by omega), k4⟩
  case stop =>
    rintro D c pre W hD hpre ⟨rfl, hbad, h2, h3, hB⟩ hK
    clear b2 b3 b4 b5 hW
    obtain ⟨e1, e2⟩ := rf_no hbad
    have E1 := Lib.hid e1; have E2 := Lib.hid e2
    clear e1 e2 hbad
    gi_wp2
    refine ⟨by simp, .inl ⟨_, _, rfl, run_takeDeferred hK, ?_⟩⟩
    have c2 := (boxed_put (.deferred none) h2 hK rfl).cell
    have c3 := (boxed_put (.deferred none) h3 hK rfl).cell
    refine ⟨.tuple #[.slice none 0 0, .int .i64 5], res2c _ _ w.heap.size rfl rfl c2 c3, ?_⟩
    rw [E1.out, E2.out]
    exact ⟨none, 0, rfl, World.ownsRow_nil _ _ _ _, below_put _ hB (by omega) (Nat.le_refl _)⟩
end Go.Proofs.YtbkhlcbnnjgdpaaGreatDoor
