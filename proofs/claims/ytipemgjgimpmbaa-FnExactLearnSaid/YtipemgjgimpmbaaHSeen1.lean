/-
Rows of Seen that the call itself made: the kind whose lists of Recent keep their capacity; slices.Clone, copySeen, l7Copy. Conditions: each contract's own premises.
-/
import Derived.Test.YtipemgjgimpmbaaHCopy1
import Derived.Test.YtipemgjgimpmbaaHCopy4
import Derived.Test.YtipemgjgimpmbaaHTab2
import Derived.Test.YtipemgjgimpmbaaHMv
import Derived.Lib.SliceRun
namespace Go.Proofs.Ytipemgjgimpmbaa.H
open Go.RowKit
set_option linter.unusedVariables false
set_option linter.unusedSimpArgs false
set_option maxRecDepth 100000
def Ki.sliceX {α : Type} (e : Nat) (d : Ki α) : Ki (List α) where
  sz := 1
  K := (Ki.slice e d).K
  T := fun w F xs cs => ∃ v, cs = [v] ∧ TS d e w F xs v ∧ Ex w e d.sz v xs.length
  len := (Ki.slice e d).len
  one := (Ki.slice e d).one
  mono := (Ki.slice e d).mono
  T_K := by
    rintro w F xs cs ⟨v, rfl, h, _⟩
    exact (Ki.slice e d).T_K ⟨v, rfl, h⟩
  T_frame := by
    rintro w w1 F x cs hf ⟨v, rfl, h, hx⟩
    refine ⟨v, rfl, TP_frame hf h, hx.move (fun k hk => hf k ?_)⟩
    obtain ⟨inner, Fs, ho, hl, hn, hp, _⟩ := h
    exact hp.mem_iff.2 (by simp [hk])
  T_lt := by
    rintro w F x cs ⟨v, rfl, h, _⟩
    exact TP_lt h
def kSeenX : Ki Seen := Ki.iso (Ki.pair (Ki.int .i64) (Ki.pair (Ki.int .i64) (Ki.pair (Ki.int .i64) (Ki.sliceX 103 kRecent)))) (fun x : Seen => (x.Producer, x.Turn, x.Next, x.Recent))
theorem SeenX.opnT {w : World} {F : List Nat} {x : Seen} {cs : List Go.Value} (h : kSeenX.T w F x cs) : ∃ v3, cs = [.int .i64 x.Producer, .int .i64 x.Turn, .int .i64 x.Next, v3] ∧ TS kRecent 103 w F x.Recent v3 ∧ Ex w 103 3 v3 x.Recent.length := by
  obtain ⟨_, _, _, _, rfl, rfl, ⟨rfl, rfl⟩, ⟨_, _, _, _, rfl, rfl, ⟨rfl, rfl⟩, ⟨_, _, _, _, rfl, rfl, ⟨rfl, rfl⟩, ⟨v3, rfl, g3, ex⟩⟩⟩⟩ := h
  exact ⟨v3, rfl, by simpa using g3, ex⟩
theorem SeenX.mkT (w : World) (x : Seen) {v3 : Go.Value} {F3 : List Nat} (g3 : TS kRecent 103 w F3 x.Recent v3) (ex : Ex w 103 3 v3 x.Recent.length) : kSeenX.T w F3 x [.int .i64 x.Producer, .int .i64 x.Turn, .int .i64 x.Next, v3] := by
  have h : kSeenX.T w _ x [.int .i64 x.Producer, .int .i64 x.Turn, .int .i64 x.Next, v3] := ⟨[.int .i64 x.Producer], [.int .i64 x.Turn, .int .i64 x.Next, v3], _, _, rfl, rfl, ⟨rfl, rfl⟩, ⟨[.int .i64 x.Turn], [.int .i64 x.Next, v3], _, _, rfl, rfl, ⟨rfl, rfl⟩, ⟨[.int .i64 x.Next], [v3], _, _, rfl, rfl, ⟨rfl, rfl⟩, ⟨_, rfl, g3, ex⟩⟩⟩⟩
  simpa using h
theorem SeenX.toT {w : World} {F : List Nat} {x : Seen} {cs : List Go.Value} (h : kSeenX.T w F x cs) : kSeen.T w F x cs := by
  obtain ⟨v3, rfl, g3, _⟩ := SeenX.opnT h
  exact Seen.mkT w x g3
theorem seenX_TS {w : World} {F : List Nat} {xs : List Seen} {v : Value} (h : TS kSeenX 101 w F xs v) : TS kSeen 101 w F xs v := by
  obtain ⟨inner, Fs, h1, h2, h3, h4, h5⟩ := h
  refine ⟨inner, Fs, h1, h2, h3, h4, fun i x hi => ?_⟩
  obtain ⟨Fi, h6, h7⟩ := h5 i x hi
  exact ⟨Fi, h6, SeenX.toT h7⟩
theorem info_recent : (Try.prog.info? 103).map (fun i => (i.zero, i.size, i.bytes)) = some (some (.agg #[.int .i64 0, .int .i64 0, .int .i64 0]), 3, 24) := by kernel_rfl
theorem info_seen : (Try.prog.info? 101).map (fun i => (i.zero, i.size, i.bytes)) = some (some (.agg #[.int .i64 0, .int .i64 0, .int .i64 0, .slice none 0 0]), 4, 48) := by kernel_rfl
theorem recent_flat (w1 w2 : World) (x : Recent) (cs : List Value) (h : kRecent.K w1 x cs) : kRecent.T w2 [] x cs := by
  obtain rfl := Recent.opn h
  exact Recent.mkT _ _
def ClonedR (l : List Recent) (w : World) (en : Ending) (w' : World) : Prop := ∃ A c, en = .returned (.slice A l.length c) ∧ OwnR kRecent 103 w.heap.size w' l (.slice A l.length c) ∧ Below w.heap.size w w'
set_option maxHeartbeats 4000000 in
theorem cloneRecent_c (w : World) (l : List Recent) {A : Option Addr} {c : Nat} (hc : l.length ≤ c) (hr : Row kRecent w A l) (hl : l.length ≤ 1048576) :
    Calls Try.prog 72 #[.slice A l.length c] w (ClonedR l w) := by
  have hu := Try.underlying103
  have hu2 := Try.underlying99
  have hnil : ∀ (w : World) a n c, (binOp .eql 99 (.slice a n c) (.slice none 0 0)).run Try.prog w = .ok (.bool a.isNone) w := fun w a n c => Lib.run_eql_slice_nil w _ _ a n c 0 0 Try.underlying99
  cases A with
  | none =>
    obtain rfl : l = [] := by
      by_cases h0 : 0 < l.length
      · obtain ⟨a, ha, _⟩ := hr h0
        cases ha
      · exact List.eq_nil_of_length_eq_zero (by omega)
    go_enter Try.func72, Try.ntmps72
    go_wp2
    go_ret
    exact ⟨none, 0, rfl, OwnR.nil, Below.refl _ _⟩
  | some ad =>
    have HR := Lib.hid hr
    clear hr
    go_enter Try.func72, Try.ntmps72
    go_wp2_with (at_builtin; refine list_flat (v := .slice (some ⟨w.heap.size, 0, none⟩) 0 0) info_recent rfl (by decide) (by decide) recent_flat rfl _ _ _ rfl Try.underlying99 rfl (lit_KO w) rfl (Row_below HR.out (below_al _ _)) hl (by simp) ?_; intro A7 c7 W8 hO5 hgr hvb)
    go_ret
    exact ⟨A7, c7, rfl, hO5, (below_al w (.cells #[] 103)).grown hgr (by simp) (fun k hk => by simp [Value.ownBlock] at hk; omega)⟩
def MadeX (l : List Seen) (w : World) (en : Ending) (w' : World) : Prop := ∃ A c, en = .returned (.slice A l.length c) ∧ OwnR kSeenX 101 w.heap.size w' l (.slice A l.length c) ∧ Below w.heap.size w w'
set_option maxHeartbeats 4000000 in
theorem implCopySeen_c (w : World) (l : List Seen) {A : Option Addr} {c : Nat} (hc : l.length ≤ c) (hr : Row kSeen w A l) (hl : l.length ≤ 1048576) (hs : ∀ y ∈ l, y.sm) :
    Calls Try.prog 69 #[.slice A l.length c] w (MadeX l w) := by
  have HS := Lib.hid hs
  clear hs
  have hu := Try.underlying101
  have hu2 := Try.underlying46
  have hu3 := Try.underlying99
  go_enter Try.func69, Try.ntmps69
  go_upto_region 3 with fail
  go_loopg [3, 8] l.length (fun g v3 v8 wr => ∃ (k : Nat) (A' : Option Addr) (c' : Nat), k + g = l.length ∧ v8 = .int .i64 k ∧ v3 = .slice A' k c' ∧ Hid (OwnR kSeenX 101 w.heap.size wr (l.take k) (.slice A' k c')) ∧ Below w.heap.size w wr)
  case atStart => exact ⟨0, none, 0, by omega, rfl, rfl, Lib.hid (by rw [List.take_zero]; exact OwnR.nil), Below.refl _ _⟩
  case round =>
    obtain ⟨k, A', c', hk, rfl, rfl, HO, hb⟩ := hrel
    by_cases hlt : k < l.length
    case neg =>
      obtain rfl : k = l.length := by omega
      have hO := HO.out
      rw [List.take_length] at hO
      have HO2 := Lib.hid hO
      clear hO
      go_wp2
      go_ret
      exact ⟨A', c', rfl, HO2.out, hb⟩
    have hkc : k ≤ l.length := by omega
    obtain ⟨ad, y, A3, c3, rfl, hy, p0, p1, p2, p3, l3, g3⟩ := Seen.at (Row_below hr hb) k hlt
    have HY := Lib.hid hy
    have hy3 : y.Recent.length ≤ 1048576 := HS.out y (List.mem_of_getElem? hy)
    clear hy
    have B1 := Blk.new wr #[.int .i64 y.Producer, .int .i64 y.Turn, .int .i64 y.Next, .slice A3 y.Recent.length c3] 101
    have hb1 := below_al wr (.cells #[.int .i64 y.Producer, .int .i64 y.Turn, .int .i64 y.Next, .slice A3 y.Recent.length c3] 101)
    obtain ⟨G, hG⟩ : ∃ n, n = wr.heap.size := ⟨_, rfl⟩
    go_upto_region 5 with fail
    clear p0 p1 p2 p3
    generalize wr.alloc (.cells #[.int .i64 y.Producer, .int .i64 y.Turn, .int .i64 y.Next, .slice A3 y.Recent.length c3] 101) = W1 at B1 hb1 ⊢
    rw [← hG] at B1 ⊢
    have HG := Lib.hid hG
    clear hG
    have a3 : W1.cell? ⟨G, 3, none⟩ = some (.slice A3 y.Recent.length c3) := B1.cell 3 _ rfl
    have z3 := B1.frz 3
    have hGl := B1.lt
    have G3 := Lib.hid (Row_below g3 hb1)
    have hs1 := hb1.size
    have hs1' : wr.heap.size ≤ W1.heap.size := hs1
    go_upto_region 6 with (go_at_call 72; refine (cloneRecent_c _ y.Recent l3 G3.out hy3).mono ?_; rintro e W2 ⟨A6, c6, rfl, hO5, hb5⟩; have B2 := B1.below hb5; have a6 : W2.cell? ⟨G, 3, none⟩ = some (.slice A3 y.Recent.length c3) := B2.cell 3 _ rfl; have z6 := B2.frz 3; have hGl2 := B2.lt; have HB5 := Lib.hid hb5; clear hb5; have HO5 := Lib.hid hO5; clear hO5)
    have hbw2 : Below w.heap.size w W2 := below_tr (below_tr hb hb1) HB5.out
    have hbr2 : Below wr.heap.size wr W2 := below_tr hb1 HB5.out
    have B3 := B2.set 3 (.slice A6 y.Recent.length c6)
    have hbw3 : Below w.heap.size w (W2.setCell ⟨G, 3, none⟩ (.slice A6 y.Recent.length c6)) := hbw2.setCell (p := ⟨G, 3, none⟩) (by have := hb.size; have := HG.out; simp; omega) _
    have hbr3 : Below wr.heap.size wr (W2.setCell ⟨G, 3, none⟩ (.slice A6 y.Recent.length c6)) := hbr2.setCell (p := ⟨G, 3, none⟩) (by have := HG.out; simp; omega) _
    have HO6 := Lib.hid (HO5.out.setc G 3 (.slice A6 y.Recent.length c6) (by have := B1.lt; omega))
    generalize W2.setCell ⟨G, 3, none⟩ (.slice A6 y.Recent.length c6) = W3 at B3 hbw3 hbr3 HO6 ⊢
    clear a6 z6 hGl2 HO5 HB5 B2 hbw2 hbr2 a3 z3 hGl G3 hs1 hb1 B1 g3
    have d0 : W3.cell? ⟨G, 0, none⟩ = some (.int .i64 y.Producer) := B3.cell 0 _ rfl
    have d1 : W3.cell? ⟨G, 1, none⟩ = some (.int .i64 y.Turn) := B3.cell 1 _ rfl
    have d2 : W3.cell? ⟨G, 2, none⟩ = some (.int .i64 y.Next) := B3.cell 2 _ rfl
    have d3 : W3.cell? ⟨G, 3, none⟩ = some (.slice A6 y.Recent.length c6) := B3.cell 3 _ rfl
    have hbA := below_al W3 (.cells #[.int .i64 y.Producer, .int .i64 y.Turn, .int .i64 y.Next, .slice A6 y.Recent.length c6] 101)
    have hbwA := below_tr hbw3 hbA
    have hbrA := below_tr hbr3 hbA
    have X := Box.new W3 #[.int .i64 y.Producer, .int .i64 y.Turn, .int .i64 y.Next, .slice A6 y.Recent.length c6] 101
    obtain ⟨F6, hT6, hN6, hG6, hE6⟩ := HO6.out.below hbA
    have hTr := SeenX.mkT _ y hT6 hE6
    have HFx : Hid (Fresh wr F6) := Lib.hid ⟨hN6, fun b hb' => by have := hG6 b hb'; have := hs1'; omega⟩
    go_wp2_with (at_builtin; refine list_el (v := .slice A' k c') info_seen rfl (by decide) (by decide) rfl _ _ _ rfl Try.underlying46 rfl HO.out hbrA hb.size _ _ rfl hTr X HFx.out (by rw [List.length_take]; omega) ?_; intro A7 c7 W4 hO7 hgr hvb)
    have hbw7 := hbwA.grown hgr hbwA.size hvb
    go_roundg (gk - 1)
    case rel => exact ⟨k + 1, A7, c7, by omega, by go_num, by first | rfl | rw [List.length_take, Nat.min_eq_left hkc], Lib.hid (by rw [take_snoc HY.out]; rw [List.length_take, Nat.min_eq_left hkc] at hO7; exact hO7), hbw7⟩
    case measure => omega
set_option maxHeartbeats 4000000 in
theorem specCopySeen_c (w : World) (l : List Seen) {A : Option Addr} {c : Nat} (hc : l.length ≤ c) (hr : Row kSeen w A l) (hl : l.length ≤ 1048576) (hs : ∀ y ∈ l, y.sm) :
    Calls Try.prog 63 #[.slice A l.length c] w (MadeX l w) := by
  have HS := Lib.hid hs
  clear hs
  have hu := Try.underlying101
  have hu2 := Try.underlying46
  have hu3 := Try.underlying99
  go_enter Try.func63, Try.ntmps63
  go_upto_region 3 with fail
  go_loopg [3, 4] l.length (fun g v3 v8 wr => ∃ (k : Nat) (A' : Option Addr) (c' : Nat), k + g = l.length ∧ v8 = .int .i64 k ∧ v3 = .slice A' k c' ∧ Hid (OwnR kSeenX 101 w.heap.size wr (l.take k) (.slice A' k c')) ∧ Below w.heap.size w wr)
  case atStart => exact ⟨0, some ⟨w.heap.size, 0, none⟩, 0, by omega, rfl, rfl, Lib.hid (by rw [List.take_zero]; exact lit_own w), below_al _ _⟩
  case round =>
    obtain ⟨k, A', c', hk, rfl, rfl, HO, hb⟩ := hrel
    by_cases hlt : k < l.length
    case neg =>
      obtain rfl : k = l.length := by omega
      have hO := HO.out
      rw [List.take_length] at hO
      have HO2 := Lib.hid hO
      clear hO
      go_wp2
      go_ret
      exact ⟨A', c', rfl, HO2.out, hb⟩
    have hkc : k ≤ l.length := by omega
    obtain ⟨ad, y, A3, c3, rfl, hy, p0, p1, p2, p3, l3, g3⟩ := Seen.at (Row_below hr hb) k hlt
    have HY := Lib.hid hy
    have hy3 : y.Recent.length ≤ 1048576 := HS.out y (List.mem_of_getElem? hy)
    clear hy
    have B1 := Blk.new wr #[.int .i64 y.Producer, .int .i64 y.Turn, .int .i64 y.Next, .slice A3 y.Recent.length c3] 101
    have hb1 := below_al wr (.cells #[.int .i64 y.Producer, .int .i64 y.Turn, .int .i64 y.Next, .slice A3 y.Recent.length c3] 101)
    obtain ⟨G, hG⟩ : ∃ n, n = wr.heap.size := ⟨_, rfl⟩
    go_upto_region 6 with fail
    clear p0 p1 p2 p3
    generalize wr.alloc (.cells #[.int .i64 y.Producer, .int .i64 y.Turn, .int .i64 y.Next, .slice A3 y.Recent.length c3] 101) = W1 at B1 hb1 ⊢
    rw [← hG] at B1 ⊢
    have HG := Lib.hid hG
    clear hG
    have a3 : W1.cell? ⟨G, 3, none⟩ = some (.slice A3 y.Recent.length c3) := B1.cell 3 _ rfl
    have z3 := B1.frz 3
    have hGl := B1.lt
    have G3 := Lib.hid (Row_below g3 hb1)
    have hs1 := hb1.size
    have hs1' : wr.heap.size ≤ W1.heap.size := hs1
    go_upto_region 7 with (at_builtin; refine list_flat (v := .slice (some ⟨W1.heap.size, 0, none⟩) 0 0) info_recent rfl (by decide) (by decide) recent_flat rfl _ _ _ rfl Try.underlying99 rfl (lit_KO W1) rfl (Row_below G3.out (below_al _ _)) hy3 (by simp) ?_; intro A6 c6 W2 hO5 hgr hvb; have B2 := (B1.below (below_al W1 (.cells #[] 103))).grown hgr (by simp [Value.ownBlock]; have := B1.lt; omega); have a6 : W2.cell? ⟨G, 3, none⟩ = some (.slice A3 y.Recent.length c3) := B2.cell 3 _ rfl; have z6 := B2.frz 3; have hGl2 := B2.lt; have HGR := Lib.hid hgr; clear hgr hvb; have HO5 := Lib.hid hO5; clear hO5)
    have hb5 : Below W1.heap.size W1 W2 := (below_al W1 (.cells #[] 103)).grown HGR.out (by simp) (fun k hk => by simp [Value.ownBlock] at hk; omega)
    have hbw2 : Below w.heap.size w W2 := below_tr (below_tr hb hb1) hb5
    have hbr2 : Below wr.heap.size wr W2 := below_tr hb1 hb5
    have B3 := B2.set 3 (.slice A6 y.Recent.length c6)
    have hbw3 : Below w.heap.size w (W2.setCell ⟨G, 3, none⟩ (.slice A6 y.Recent.length c6)) := hbw2.setCell (p := ⟨G, 3, none⟩) (by have := hb.size; have := HG.out; simp; omega) _
    have hbr3 : Below wr.heap.size wr (W2.setCell ⟨G, 3, none⟩ (.slice A6 y.Recent.length c6)) := hbr2.setCell (p := ⟨G, 3, none⟩) (by have := HG.out; simp; omega) _
    have HO6 := Lib.hid (HO5.out.setc G 3 (.slice A6 y.Recent.length c6) (by have := B1.lt; omega))
    generalize W2.setCell ⟨G, 3, none⟩ (.slice A6 y.Recent.length c6) = W3 at B3 hbw3 hbr3 HO6 ⊢
    clear a6 z6 hGl2 HO5 HGR hb5 B2 hbw2 hbr2 a3 z3 hGl G3 hs1 hb1 B1 g3
    have d0 : W3.cell? ⟨G, 0, none⟩ = some (.int .i64 y.Producer) := B3.cell 0 _ rfl
    have d1 : W3.cell? ⟨G, 1, none⟩ = some (.int .i64 y.Turn) := B3.cell 1 _ rfl
    have d2 : W3.cell? ⟨G, 2, none⟩ = some (.int .i64 y.Next) := B3.cell 2 _ rfl
    have d3 : W3.cell? ⟨G, 3, none⟩ = some (.slice A6 y.Recent.length c6) := B3.cell 3 _ rfl
    have hbA := below_al W3 (.cells #[.int .i64 y.Producer, .int .i64 y.Turn, .int .i64 y.Next, .slice A6 y.Recent.length c6] 101)
    have hbwA := below_tr hbw3 hbA
    have hbrA := below_tr hbr3 hbA
    have X := Box.new W3 #[.int .i64 y.Producer, .int .i64 y.Turn, .int .i64 y.Next, .slice A6 y.Recent.length c6] 101
    obtain ⟨F6, hT6, hN6, hG6, hE6⟩ := HO6.out.below hbA
    have hTr := SeenX.mkT _ y hT6 hE6
    have HFx : Hid (Fresh wr F6) := Lib.hid ⟨hN6, fun b hb' => by have := hG6 b hb'; have := hs1'; omega⟩
    go_wp2_with (at_builtin; refine list_el (v := .slice A' k c') info_seen rfl (by decide) (by decide) rfl _ _ _ rfl Try.underlying46 rfl HO.out hbrA hb.size _ _ rfl hTr X HFx.out (by rw [List.length_take]; omega) ?_; intro A7 c7 W4 hO7 hgr hvb)
    have hbw7 := hbwA.grown hgr hbwA.size hvb
    go_roundg (gk - 1)
    case rel => exact ⟨k + 1, A7, c7, by omega, by go_num, by first | rfl | rw [List.length_take, Nat.min_eq_left hkc], Lib.hid (by rw [take_snoc HY.out]; rw [List.length_take, Nat.min_eq_left hkc] at hO7; exact hO7), hbw7⟩
    case measure => omega
end Go.Proofs.Ytipemgjgimpmbaa.H
