/- Contracts: impl.small, impl.split, impl.ReadWeb and spec.ReadWeb. -/
import Derived.Test.YtefipngapgffdaaGreatDoorO2
import Derived.Lib.ParseIntBTie
namespace Go.Proofs.YtefipngapgffdaaGreatDoor
open Go.RowKit
set_option linter.unusedVariables false
set_option linter.unusedSimpArgs false
/-- What the texts' readers ask of the package-level variables. -/
structure Env (B : Nat) (w : World) : Prop where
  tb : Tb B w
  low : 1 < B ∧ 2 < B ∧ 0 < B
  mx : ∃ m, w.cell? ⟨0, 0, none⟩ = some (.int .i64 m)
  sy : ∃ tp p, w.var? Tryz.prog "strconv.ErrSyntax" = some #[.iface tp p]
  ra : ∃ tp p, w.var? Tryz.prog "strconv.ErrRange" = some #[.iface tp p]
theorem var_on {P : Program} {w w' : World} {n : String} {g B : Nat} {cs : Array Value} (hg : P.globalNamed n = some g) (hB : g < B) (hb : Below B w w') (h : w.var? P n = some cs) : w'.var? P n = some cs := by
  unfold World.var? at h ⊢
  rw [hg] at h ⊢
  simp only [Option.bind_some] at h ⊢
  rw [hb.block g hB]
  exact h
theorem Env.on {B : Nat} {w w' : World} (E : Env B w) (hb : Below B w w') : Env B w' := by
  obtain ⟨h1, h0, ⟨m, h2⟩, ⟨t3, p3, h3⟩, ⟨t4, p4, h4⟩⟩ := E
  refine ⟨h1.on hb, h0, ⟨m, ?_⟩, ⟨t3, p3, var_on (g := 1) (by kernel_rfl) h0.1 hb h3⟩, ⟨t4, p4, var_on (g := 2) (by kernel_rfl) h0.2.1 hb h4⟩⟩
  rw [World.cell?_of_block (w := w) (hb.block 0 h0.2.2)]
  exact h2
theorem infoI64 : (Tryz.prog.info? 2).map (fun i => (i.zero, i.size, i.bytes)) = some (some (.int .i64 0), 1, 8) := by kernel_rfl
theorem small64_any (B : Nat) (s : ByteArray) (w : World) (E : Env B w) (hs : s.size ≤ 1048576) :
    Calls Tryz.prog 68 #[.string s, .int .i64 64] w fun e w' => ∃ v, e = .returned (.tuple #[.int .i64 v, .bool (pok 64 s.data.toList)]) ∧ (pok 64 s.data.toList = true → v = pv 64 s.data.toList) ∧ Below w.heap.size w w' := by
  cases h : Lib.parseIntB 64 s.data.toList with
  | ok v =>
    have P := Lib.hid (pok_ok h)
    have H := Lib.hid h
    clear h
    go_enter Tryz.func68, Tryz.ntmps68
    go_wp2_with fail
    refine (Tryz.strconv_ParseInt_10_at64_ok s (by omega) v H.out _).mono ?_
    rintro e w1 ⟨rfl, hw⟩
    have hb : Below w.heap.size w w1 := by
      rcases hw with rfl | ⟨t, rfl⟩
      · exact Below.refl _ _
      · exact Lib.bytesWorld_below _ _ _
    clear hw
    go_wp2_with fail
    go_region
    go_wp2_with fail
    go_ret2
    exact ⟨v, by rw [P.out.1]; rfl, fun _ => P.out.2.symm, hb.drew⟩
  | «syntax» =>
    have P := Lib.hid (pok_syntax h)
    have H := Lib.hid h
    obtain ⟨tp, p, hv⟩ := E.sy
    clear h
    go_enter Tryz.func68, Tryz.ntmps68
    go_wp2_with fail
    refine (Tryz.strconv_ParseInt_10_at64_syntax_var s (by omega) H.out tp p _ hv).mono ?_
    rintro e w1 ⟨N, rfl, h1, h2, hb⟩
    clear hv h1 h2
    go_wp2_with fail
    go_region
    go_wp2_with fail
    go_ret2
    exact ⟨_, by rw [P.out]; rfl, (fun e => by rw [P.out] at e; cases e), hb.drew⟩
  | range =>
    have P := Lib.hid (pok_range h)
    have H := Lib.hid h
    obtain ⟨tp, p, hv⟩ := E.ra
    clear h
    go_enter Tryz.func68, Tryz.ntmps68
    go_wp2_with fail
    refine (Tryz.strconv_ParseInt_10_at64_range_var s (by omega) H.out tp p _ hv).mono ?_
    rintro e w1 ⟨N, rfl, h1, h2, hb⟩
    clear hv h1 h2
    go_wp2_with fail
    go_region
    go_wp2_with fail
    go_ret2
    exact ⟨_, by rw [P.out]; rfl, (fun e => by rw [P.out] at e; cases e), hb.drew⟩
/-- The words of a text, as the library's Split lays them. -/
def lwd (s : ByteArray) : List ByteArray := Lib.splitB ⟨#[32]⟩ 0 (Lib.countB s ⟨#[32]⟩) s
theorem lwd_wds (s : ByteArray) : (lwd s).map (·.data.toList) = wds s := splitB_sp 32 s
theorem lwd_len (s : ByteArray) : (lwd s).length = Lib.countB s ⟨#[32]⟩ + 1 := Lib.splitB_all ⟨#[32]⟩ (by decide) 0 _ s rfl
theorem lwd_le (s : ByteArray) : (lwd s).length ≤ s.size + 1 := by
  have := Lib.countB_le ⟨#[32]⟩ (by decide) s.size s (Nat.le_refl _)
  have := lwd_len s
  omega
theorem lwd_size {s x : ByteArray} (h : x ∈ lwd s) : x.size ≤ s.size := by
  have h1 : x.data.toList ∈ wds s := by rw [← lwd_wds]; exact List.mem_map_of_mem h
  have h2 : ∀ (l : List UInt8), ∀ y ∈ sp 32 l, y.length ≤ l.length := by
    intro l
    induction l with
    | nil => intro y hy; simp [sp] at hy; subst hy; simp
    | cons z r ih =>
      intro y hy
      obtain ⟨a, t, e⟩ := sp_ne 32 r
      by_cases hx : z = 32
      · subst hx
        rw [sp_hit] at hy
        rcases List.mem_cons.1 hy with rfl | h
        · simp
        · have := ih y h; simp; omega
      · rw [sp_miss hx r e] at hy
        rw [e] at ih
        rcases List.mem_cons.1 hy with rfl | h
        · have := ih a (by simp); simp; omega
        · have := ih y (by simp [h]); simp; omega
  have := h2 _ _ h1
  rw [str_len, str_len] at this
  exact this
theorem lwd_ivs (s : ByteArray) : (lwd s).map (fun x => pv 64 x.data.toList) = ivs s := by unfold ivs; rw [← lwd_wds, List.map_map]; rfl
theorem all_no {s : ByteArray} {j : Nat} {x : ByteArray} (hx : (lwd s)[j]? = some x) (h : pok 64 x.data.toList = false) : iok s = false := by
  have hm : x.data.toList ∈ wds s := by rw [← lwd_wds]; exact List.mem_map_of_mem (List.mem_of_getElem? hx)
  unfold iok
  have : (wds s).all (pok 64) = false := by rw [List.all_eq_false]; exact ⟨_, hm, by rw [h]; simp⟩
  rw [this]
  rfl
theorem all_yes {s : ByteArray} (h : NotYet (fun x : ByteArray => !pok 64 x.data.toList) (lwd s) (lwd s).length) : (wds s).all (pok 64) = true := by
  rw [List.all_eq_true]
  intro y hy
  rw [← lwd_wds] at hy
  obtain ⟨x, hx, rfl⟩ := List.mem_map.1 hy
  obtain ⟨j, hj, rfl⟩ := List.getElem_of_mem hx
  have := h j _ hj (List.getElem?_eq_getElem hj)
  simpa using this
theorem str_eq (a b : ByteArray) : (a.toList == b.toList) = decide (a = b) := by
  rw [ByteArray.toList_eq, ByteArray.toList_eq]
  by_cases h : a = b
  · subst h; simp
  · rw [decide_eq_false h, beq_eq_false_iff_ne]
    intro e
    exact h (ByteArray.ext (Array.toList_inj.1 e))
set_option maxHeartbeats 2000000 in
theorem split_any (B : Nat) (s : ByteArray) (w : World) (E : Env B w) (hB : B ≤ w.heap.size) (hs : s.size ≤ 1048576) :
    Calls Tryz.prog 33 #[.string s, .string ⟨#[32]⟩] w fun e w' => (iok s = true ∧ ∃ A c, e = .returned (.tuple #[.slice A (ivs s).length c, .bool true]) ∧ w'.ownsRow w.heap.size 2 1 (.slice A (ivs s).length c) (ivs s).length (nums .i64 (ivs s)) ∧ Below w.heap.size w w') ∨ (iok s = false ∧ ∃ v, e = .returned (.tuple #[v, .bool false]) ∧ Below w.heap.size w w') := by
  obtain ⟨m, hm⟩ := E.mx
  have hsplit := Tryz.strings_Split s ⟨#[32]⟩ m w (by omega) hm (by decide)
  have hlen := lwd_len s
  have hle := lwd_le s
  rw [← hlen] at hsplit
  have HSP := Lib.hid hsplit
  have HLE := Lib.hid hlen
  clear hsplit hm hlen
  obtain ⟨n, hn⟩ : ∃ n, (lwd s).length = n := ⟨_, rfl⟩
  rw [hn] at HSP hle
  have HN := Lib.hid hn
  have hn1 : 1 ≤ n := by have := HLE.out; omega
  clear hn HLE
  go_enter Tryz.func33, Tryz.ntmps33
  go_wp2_with fail
  refine HSP.out.mono ?_
  rintro e w1 ⟨rfl, hw1⟩
  have X0 : Row w1 w.heap.size 9 (strs (lwd s)) := by rw [hw1]; exact Row.alloc w (strs (lwd s)) _
  have b0 : Below w.heap.size w w1 := by rw [hw1]; exact below_alloc1 w _
  have s0 : w1.heap.size = w.heap.size + 1 := by rw [hw1, World.size_alloc]
  have HX := Lib.hid X0
  have HB0 := Lib.hid b0
  have HS0 := Lib.hid s0
  clear hw1 X0 b0 s0 HSP
  go_wp2_with fail
  go_loopw [6, 15] (fun o v wr => ∃ (k : Nat) (A' : Option Addr) (c' : Nat), k ≤ n ∧ v = .int .i64 k ∧ o = .slice A' k c' ∧ Hid (NotYet (fun x : ByteArray => !pok 64 x.data.toList) (lwd s) k) ∧ Hid (wr.ownsRow w1.heap.size 2 1 (.slice A' k c') k (nums .i64 (((lwd s).take k).map fun x => pv 64 x.data.toList))) ∧ Hid (Below w1.heap.size w1 wr)) (fun _ v _ => n - (intOf v).toNat)
  case atStart => exact ⟨0, none, 0, by omega, rfl, rfl, Lib.hid (NotYet.zero _ _), Lib.hid (World.ownsRow_nil w1 w1.heap.size 2 1), Lib.hid (Below.refl _ _)⟩
  case round =>
    obtain ⟨k, A', c', hk, rfl, rfl, H, O, HB⟩ := hrel
    have hBw : B ≤ wr.heap.size := Nat.le_trans hB (Nat.le_trans HB0.out.size HB.out.size)
    have hE := Lib.hid (E.on ((HB0.out.mono hB).trans (HB.out.mono (Nat.le_trans hB HB0.out.size))))
    by_cases hlt : k < n
    · obtain ⟨x, hx⟩ : ∃ x, (lwd s)[k]? = some x := ⟨_, List.getElem?_eq_getElem (by rw [HN.out]; exact hlt)⟩
      have hxs := lwd_size (List.mem_of_getElem? hx)
      have hc : wr.cell? ⟨w.heap.size, k, none⟩ = some (.string x) := by
        rw [(HX.out.below HB.out).cell, strs, List.getElem?_map, hx]
        rfl
      have HXX := Lib.hid hx
      have HT : Hid (((lwd s).take (k + 1)).map (fun x => pv 64 x.data.toList) = ((lwd s).take k).map (fun x => pv 64 x.data.toList) ++ [pv 64 x.data.toList]) := Lib.hid (by rw [List.take_add_one, hx]; simp)
      clear hx
      go_wp2_with fail
      refine (small64_any B x _ hE.out (by omega)).mono ?_
      rintro e w2 ⟨v, rfl, hv, hb2⟩
      have HB2 := Lib.hid (below_then HB.out HB.out.size hb2)
      have O2 := Lib.hid (own_below O.out hb2)
      clear hb2
      cases hp : pok 64 x.data.toList
      · have hno := Lib.hid (all_no HXX.out hp)
        go_wp2_with fail
        go_ret2
        exact .inr ⟨hno.out, _, rfl, below_then HB0.out HB0.out.size HB2.out⟩
      · have hvv := hv hp
        have HY := Lib.hid (H.out.step HXX.out (by rw [hp]; rfl))
        subst hvv
        clear hv hp
        obtain ⟨v, hv⟩ : ∃ v, pv 64 x.data.toList = v := ⟨_, rfl⟩
        rw [hv] at HT ⊢
        clear hv
        go_wp2_with ((at_builtin; refine app_any (w0 := w1) w1.heap.size (by rfl) _ _ 24 2 (.int .i64 0) 1 8 (by rfl) Tryz.underlying24 infoI64 rfl (by omega) (by omega) _ (by rfl) 1 1 [.int .i64 v] (by rfl) (by rfl) (by simp [Value.oneCell']) O2.out HB2.out HB2.out.size (by omega) ?_; intro A2 c2 w3 O3 HB3 hg3))
        have O4 := Lib.hid (show w3.ownsRow w1.heap.size 2 1 (.slice A2 (k + 1) c2) (k + 1) (nums .i64 (((lwd s).take (k + 1)).map fun x => pv 64 x.data.toList)) by rw [HT.out]; simpa [nums] using O3)
        clear hg3 O3
        go_roundw
        case rel => exact ⟨k + 1, A2, c2, by omega, by go_num, rfl, HY, O4, Lib.hid HB3⟩
        case measure => simp [intOf]; omega
    · obtain rfl : k = n := by omega
      have hni : ¬ (k : Int) < (k : Int) := by omega
      have hO := O.out
      rw [List.take_of_length_le (by rw [HN.out]; exact Nat.le_refl _), lwd_ivs] at hO
      have HO := Lib.hid hO
      have HAL := Lib.hid (all_yes (by rw [HN.out]; exact H.out))
      have HIL : Hid ((ivs s).length = k) := Lib.hid (by rw [← lwd_ivs, List.length_map]; exact HN.out)
      have HI : Hid (∀ x ∈ ivs s, I64 x) := Lib.hid (fun x hx => by
        obtain ⟨y, hy, rfl⟩ := List.mem_map.1 hx
        unfold pv
        cases h : Lib.parseIntB 64 y with
        | ok v => have := Lib.parseIntB_bounds h; unfold I64; simp only at this ⊢; omega
        | «syntax» => unfold I64; simp
        | range => unfold I64; simp)
      clear hO
      go_wp2_with fail
      refine (joined_any B A' k c' (ivs s) _ (own_rds1 HO.out (by omega)) HI.out hn1 (by omega) hE.out.tb hBw).mono ?_
      rintro e w2 ⟨rfl, hb2⟩
      have HB2 := Lib.hid (below_then HB.out HB.out.size hb2)
      have O2 := Lib.hid (own_below HO.out hb2)
      clear hb2
      go_wp2_with fail
      have hiok : iok s = ((wtB (ivs s)).toList == s.toList) := by unfold iok; rw [HAL.out, str_eq]; rfl
      have HFB := Lib.hid (below_then HB0.out HB0.out.size HB2.out)
      have HFO := Lib.hid (own_lower O2.out HB0.out.size)
      rw [← HIL.out] at HFO ⊢
      cases hq : ((wtB (ivs s)).toList == s.toList)
      · go_ret2
        exact .inr ⟨by rw [hiok, hq], _, rfl, HFB.out⟩
      · go_ret2
        exact .inl ⟨by rw [hiok, hq], A', c', rfl, HFO.out, HFB.out⟩
theorem iReadWeb (B : Nat) (s : ByteArray) (w : World) (E : Env B w) (hB : B ≤ w.heap.size) (hs : s.size ≤ 1048576) :
    Calls Tryz.prog 8 #[.string s] w (RetOwnT 2 1 (rwR s).length (nums .i64 (rwR s)) [.int .i64 (rwC s)] w) := by
  go_enter Tryz.func8, Tryz.ntmps8
  go_wp2_with fail
  refine (split_any B s _ E hB hs).mono ?_
  rintro e w1 (⟨h1, A, c, rfl, O, hb⟩ | ⟨h1, v, rfl, hb⟩)
  · have R := own_rds1 O (by have := lwd_le s; have e := congrArg List.length (lwd_ivs s); rw [List.length_map] at e; omega)
    have HO := Lib.hid O
    have HB := Lib.hid hb
    clear O hb
    go_wp2_with fail
    refine (validWeb_any A (ivs s).length c (ivs s) _ R).mono ?_
    rintro e w2 ⟨rfl, hb2⟩
    have HB2 := Lib.hid (below_then HB.out HB.out.size hb2)
    have HO2 := Lib.hid (own_below HO.out hb2)
    clear hb2
    cases h2 : webOk (ivs s)
    · obtain ⟨e1, e2⟩ := rw_impl_no (.inr h2)
      have E1 := Lib.hid e1; have E2 := Lib.hid e2
      clear e1 e2
      go_wp2_with fail
      go_ret2
      rw [E1.out, E2.out]
      exact ⟨none, 0, rfl, World.ownsRow_nil _ _ _ _, HB2.out⟩
    · obtain ⟨e1, e2⟩ := rw_impl_yes h1 h2
      have E1 := Lib.hid e1; have E2 := Lib.hid e2
      clear e1 e2
      go_wp2_with fail
      go_ret2
      rw [E1.out, E2.out]
      exact ⟨A, c, rfl, HO2.out, HB2.out⟩
  · obtain ⟨e1, e2⟩ := rw_impl_no (.inl h1)
    have E1 := Lib.hid e1; have E2 := Lib.hid e2
    clear e1 e2
    go_wp2_with fail
    go_ret2
    rw [E1.out, E2.out]
    exact ⟨none, 0, rfl, World.ownsRow_nil _ _ _ _, hb⟩
end Go.Proofs.YtefipngapgffdaaGreatDoor
