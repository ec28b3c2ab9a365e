/-
Deep copies, the program's: copyRecords, copyBatch, copyBatches. Conditions: each contract's own premises.
-/
import Derived.Test.YtiefpllmnmmdlaaHTxP
import Derived.Test.YtiefpllmnmmdlaaHTo
namespace Go.Proofs.Ytiefpllmnmmdlaa.H
open Go.RowKit
set_option linter.unusedVariables false
set_option linter.unusedSimpArgs false
set_option maxRecDepth 100000
theorem info_head : (Try.prog.info? 127).map (fun i => (i.zero, i.size, i.bytes)) = some (some (.agg #[.string ⟨#[]⟩, .string ⟨#[]⟩]), 2, 32) := by kernel_rfl
theorem info_rec : (Try.prog.info? 53).map (fun i => (i.zero, i.size, i.bytes)) = some (some (.agg #[.int .i64 0, .bool false, .string ⟨#[]⟩, .bool false, .string ⟨#[]⟩, .slice none 0 0]), 6, 80) := by kernel_rfl
theorem info_batch : (Try.prog.info? 48).map (fun i => (i.zero, i.size, i.bytes)) = some (some (.agg #[.int .i64 0, .int .i64 0, .int .i64 0, .int .i64 0, .int .i64 0, .int .i64 0, .slice none 0 0]), 7, 72) := by kernel_rfl
theorem info_seg : (Try.prog.info? 45).map (fun i => (i.zero, i.size, i.bytes)) = some (some (.agg #[.int .i64 0, .slice none 0 0]), 2, 32) := by kernel_rfl
/-- 'append(s, y)', s the call's own, y's blocks newer than s's. -/
theorem list_el {α : Type} {d : Ki α} {P : Program} {wo w : World} {B e : Nat} {ops : Array Oper} {rest : List Oper} {o : Oper} {a : Act} {Q : Exit → Act → World → Prop} {z : Value} {bytes : Nat} (hI : (P.info? e).map (fun i => (i.zero, i.size, i.bytes)) = some (some z, d.sz, bytes)) (hzs : z.cells.size = d.sz) (hsz : 0 < d.sz) (hb2 : bytes ≤ 1000)
    (hgd : o.guard = none) (s x : Operand) (t : TypeId) (ho : o.op = .call { callee := .builtin .append, args := #[s, x], argTypes := #[t, t] }) (ht : P.underlying t = some (.slice e))
    {xs : List α} {y : α} {v : Value} {Fx : List Nat} {cs : Array Value} (hs : a.eval s = v) (hO : OwnR d e B wo xs v) (hb : Below wo.heap.size wo w) (hB : B ≤ wo.heap.size) (g c : Nat) (hx : a.eval x = .slice (some ⟨g, 0, none⟩) 1 c)
    (hT : d.T w Fx y cs.toList) (hc : Box w g cs) (hF : Fresh wo Fx) (hn : xs.length ≤ 1048576)
    (h : ∀ A c w', OwnR d e B w' (xs ++ [y]) (.slice A (xs.length + 1) c) → w.grownBy w' v.ownBlock → (∀ k, v.ownBlock = some k → B ≤ k) → wpList P ops Q rest (a.put o.dst (.slice A (xs.length + 1) c)) w') : wpList P ops Q (o :: rest) a w := by
  have hv := hO.blk
  have hsw := hb.size
  obtain ⟨F, h1, h2, h3, hEx⟩ := hO
  obtain ⟨i0, hi, hz0, hz1, hz2⟩ := info_parts hI
  have hlt := TS_lt h1
  refine app_OwnR (d := d) (B := B) (F := F) (Fx := Fx) hgd s x t ho e i0 z bytes ht hi hz0 hz1 hz2 hzs hsz hs (TS_below h1 hb) (hEx.below hb) ⟨g, 0, none⟩ c hx hT (fun j u hj => ?_) (List.nodup_append.2 ⟨h2, hF.1, fun p hp q hq => by have := hlt p hp; have := hF.2 q hq; omega⟩) (fun b hb' => ?_) (by omega) (by omega) hb2 (fun v' w' hO' hgr => ?_)
  · have hcj := hc j u (by simpa using hj)
    by_cases e0 : j = 0
    · subst e0; exact hcj
    · simpa [Addr.add, e0] using hcj
  · rcases List.mem_append.1 hb' with h | h
    · exact h3 b h
    · have := hF.2 b h; omega
  · obtain ⟨A, c, rfl, _⟩ := hO'.slice
    simp only [List.length_append, List.length_singleton] at hO' ⊢
    exact h A c w' hO' hgr hv
theorem step_el {α : Type} {d : Ki α} {P : Program} {wo w : World} {B e : Nat} {ops : Array Oper} {o : Oper} {a : Act} {K : Act → World → Prop} {Q : Exit → Act → World → Prop} {E : Prop} {z : Value} {bytes : Nat} (hI : (P.info? e).map (fun i => (i.zero, i.size, i.bytes)) = some (some z, d.sz, bytes)) (hzs : z.cells.size = d.sz) (hsz : 0 < d.sz) (hb2 : bytes ≤ 1000)
    (hgd : o.guard = none) (s x : Operand) (t : TypeId) (ho : o.op = .call { callee := .builtin .append, args := #[s, x], argTypes := #[t, t] }) (ht : P.underlying t = some (.slice e))
    {xs : List α} {y : α} {v : Value} {Fx : List Nat} {cs : Array Value} (hs : a.eval s = v) (hO : OwnR d e B wo xs v) (hb : Below wo.heap.size wo w) (hB : B ≤ wo.heap.size) (g c : Nat) (hx : a.eval x = .slice (some ⟨g, 0, none⟩) 1 c)
    (hT : d.T w Fx y cs.toList) (hc : Box w g cs) (hF : Fresh wo Fx) (hn : xs.length ≤ 1048576)
    (h : ∀ g c w', OwnR d e B w' (xs ++ [y]) (.slice (some ⟨g, 0, none⟩) (xs.length + 1) c) → w.grownBy w' v.ownBlock → (∀ k, v.ownBlock = some k → B ≤ k) → K (a.put o.dst (.slice (some ⟨g, 0, none⟩) (xs.length + 1) c)) w') :
    if Region.wanted o (yielded ops a.tmps) = true then Oper.wp P o a w K Q else E := by
  have hv := hO.blk
  have hsw := hb.size
  obtain ⟨F, h1, h2, h3, hEx⟩ := hO
  obtain ⟨i0, hi, hz0, hz1, hz2⟩ := info_parts hI
  have hlt := TS_lt h1
  refine step_OwnR (d := d) (B := B) (F := F) (Fx := Fx) hgd s x t ho e i0 z bytes ht hi hz0 hz1 hz2 hzs hsz hs (TS_below h1 hb) (hEx.below hb) ⟨g, 0, none⟩ c hx hT (fun j u hj => ?_) (List.nodup_append.2 ⟨h2, hF.1, fun p hp q hq => by have := hlt p hp; have := hF.2 q hq; omega⟩) (fun b hb' => ?_) (by omega) (by omega) hb2 (fun g c w' hO' hgr => h g c w' hO' hgr hv)
  · have hcj := hc j u (by simpa using hj)
    by_cases e0 : j = 0
    · subst e0; exact hcj
    · simpa [Addr.add, e0] using hcj
  · rcases List.mem_append.1 hb' with h | h
    · exact h3 b h
    · have := hF.2 b h; omega
/-- 'append(s, l...)', s empty, l's kind leads nowhere: a copy. -/
theorem list_flat {α : Type} {d : Ki α} {P : Program} {w : World} {e : Nat} {ops : Array Oper} {rest : List Oper} {o : Oper} {a : Act} {Q : Exit → Act → World → Prop} {z : Value} {bytes base : Nat} (hI : (P.info? e).map (fun i => (i.zero, i.size, i.bytes)) = some (some z, d.sz, bytes)) (hzs : z.cells.size = d.sz) (hsz : 0 < d.sz) (hb2 : bytes ≤ 1000)
    (hfl : ∀ (w1 w2 : World) x cs, d.K w1 x cs → d.T w2 [] x cs)
    (hgd : o.guard = none) (s x : Operand) (t : TypeId) (ho : o.op = .call { callee := .builtin .append, args := #[s, x], argTypes := #[t, t] }) (ht : P.underlying t = some (.slice e))
    {ys : List α} {v : Value} {A : Option Addr} {c : Nat} (hs : a.eval s = v) (hK : KO d e w w base [] v) (hx : a.eval x = .slice A ys.length c) (hr : Row d w A ys) (hn : ys.length ≤ 1048576) (hbase : base ≤ w.heap.size)
    (h : ∀ A c w', OwnR d e base w' ys (.slice A ys.length c) → w.grownBy w' v.ownBlock → (∀ k, v.ownBlock = some k → base ≤ k) → wpList P ops Q rest (a.put o.dst (.slice A ys.length c)) w') : wpList P ops Q (o :: rest) a w := by
  have hv := hK.base
  obtain ⟨i0, hi, hz0, hz1, hz2⟩ := info_parts hI
  refine list_KO (d := d) hgd s x t ho i0 z bytes ht hi hz0 hz1 hz2 hzs hsz hs hK c hx hr (fun x cs h => h) (by simp only [maxLen, List.length_nil]; omega) (Nat.le_trans (Nat.mul_le_mul (by simp only [List.length_nil]; omega : _ ≤ 1048576) hb2) (by decide)) hbase (fun v' w' hK' hgr _ => ?_)
  have hO := KO.own (fun x cs h => hfl w w' x cs h) hK'
  rw [List.nil_append] at hO
  obtain ⟨A, c, rfl, _⟩ := hO.slice
  exact h A c w' hO hgr hv
theorem T_bel {α : Type} {d : Ki α} {w w1 : World} {F : List Nat} {x : α} {cs : List Value} (h : d.T w F x cs) (hb : Below w.heap.size w w1) : d.T w1 F x cs := d.T_frame (fun b hb' => hb.block b (d.T_lt h b hb')) h
theorem head_flat (w1 w2 : World) (x : Head) (cs : List Value) (h : kHead.K w1 x cs) : kHead.T w2 [] x cs := by
  obtain rfl := Head.opn h
  exact Head.mkT _ _
set_option maxHeartbeats 4000000 in
theorem implCopyRecords_c (w : World) (l : List Record) {A : Option Addr} {c : Nat} (hc : l.length ≤ c) (hr : Row kRecord w A l) (hl : l.length ≤ 1048576) (hs : ∀ y ∈ l, y.sm) :
    Calls Try.prog 26 #[.slice A l.length c] w (MadeS kRecord 53 l w) := by
  have HS := Lib.hid hs
  clear hs
  have hu := Try.underlying53
  have hu2 := Try.underlying46
  go_enter Try.func26, Try.ntmps26
  go_upto_region 3 with fail
  go_loopg [3, 8] l.length (fun g v3 v8 wr => ∃ (k : Nat) (A' : Option Addr) (c' : Nat), k + g = l.length ∧ v8 = .int .i64 k ∧ v3 = .slice A' k c' ∧ Hid (OwnR kRecord 53 w.heap.size wr (l.take k) (.slice A' k c')) ∧ Below w.heap.size w wr)
  case atStart => exact ⟨0, none, 0, by omega, rfl, rfl, Lib.hid (by rw [List.take_zero]; exact OwnR.nil), Below.refl _ _⟩
  case round =>
    obtain ⟨k, A', c', hk, rfl, rfl, HO, hb⟩ := hrel
    by_cases hlt : k < l.length
    case neg =>
      obtain rfl : k = l.length := by omega
      obtain ⟨F, hT, hF⟩ := HO.out.fresh
      rw [List.take_length] at hT
      go_wp2
      go_ret
      exact ⟨_, F, rfl, hT, hF, hb⟩
    have hkc : k ≤ l.length := by omega
    obtain ⟨ad, y, A5, c5, rfl, hy, p0, p1, p2, p3, p4, p5, l5, g5⟩ := Record.at (Row_below hr hb) k hlt
    have HY := Lib.hid hy
    have hy5 := (HS.out y (List.mem_of_getElem? hy)).2.2.1
    clear hy
    have B1 := Blk.new wr #[.int .i64 y.Time, .bool y.Keyed, .string y.Key, .bool y.Gone, .string y.Value, .slice A5 y.Heads.length c5] 53
    have hb1 := below_al wr (.cells #[.int .i64 y.Time, .bool y.Keyed, .string y.Key, .bool y.Gone, .string y.Value, .slice A5 y.Heads.length c5] 53)
    obtain ⟨G, hG⟩ : ∃ n, n = wr.heap.size := ⟨_, rfl⟩
    go_upto_region 5 with fail
    clear p0 p1 p2 p3 p4 p5
    generalize wr.alloc (.cells #[.int .i64 y.Time, .bool y.Keyed, .string y.Key, .bool y.Gone, .string y.Value, .slice A5 y.Heads.length c5] 53) = W1 at B1 hb1 ⊢
    rw [← hG] at B1 ⊢
    have HG := Lib.hid hG
    clear hG
    have a5 : W1.cell? ⟨G, 5, none⟩ = some (.slice A5 y.Heads.length c5) := B1.cell 5 _ rfl
    have z5 := B1.frz 5
    have hGl := B1.lt
    have G5 := Lib.hid (Row_below g5 hb1)
    have hs1 := hb1.size
    have hs1' : wr.heap.size ≤ W1.heap.size := hs1
    go_upto_region 6 with (at_builtin; refine list_flat (v := .slice none 0 0) info_head rfl (by decide) (by decide) head_flat rfl _ _ _ rfl Try.underlying51 rfl (KO.nil (base := W1.heap.size)) rfl G5.out hy5 (Nat.le_refl _) ?_; intro A6 c6 W2 hO5 hgr hvb; have B2 := B1.grown hgr (by simp [Value.ownBlock]); have a6 : W2.cell? ⟨G, 5, none⟩ = some (.slice A5 y.Heads.length c5) := B2.cell 5 _ rfl; have z6 := B2.frz 5; have hGl2 := B2.lt; have HGR := Lib.hid hgr; clear hgr hvb; have HO5 := Lib.hid hO5; clear hO5)
    have hbw2 : Below w.heap.size w W2 := ((below_tr hb hb1).grown HGR.out (by have := hb.size; omega) (fun k hk => by cases hk))
    have hbr2 : Below wr.heap.size wr W2 := hb1.grown HGR.out (by omega) (fun k hk => by cases hk)
    have B3 := B2.set 5 (.slice A6 y.Heads.length c6)
    have hbw3 : Below w.heap.size w (W2.setCell ⟨G, 5, none⟩ (.slice A6 y.Heads.length c6)) := hbw2.setCell (p := ⟨G, 5, none⟩) (by have := hb.size; have := HG.out; simp; omega) _
    have hbr3 : Below wr.heap.size wr (W2.setCell ⟨G, 5, none⟩ (.slice A6 y.Heads.length c6)) := hbr2.setCell (p := ⟨G, 5, none⟩) (by have := HG.out; simp; omega) _
    have HO6 := Lib.hid (HO5.out.setc G 5 (.slice A6 y.Heads.length c6) (by have := HG.out; omega))
    generalize W2.setCell ⟨G, 5, none⟩ (.slice A6 y.Heads.length c6) = W3 at B3 hbw3 hbr3 HO6 ⊢
    clear a6 z6 hGl2 HO5 HGR B2 hbw2 hbr2 a5 z5 hGl G5 hs1 hb1 B1 g5
    have d0 : W3.cell? ⟨G, 0, none⟩ = some (.int .i64 y.Time) := B3.cell 0 _ rfl
    have d1 : W3.cell? ⟨G, 1, none⟩ = some (.bool y.Keyed) := B3.cell 1 _ rfl
    have d2 : W3.cell? ⟨G, 2, none⟩ = some (.string y.Key) := B3.cell 2 _ rfl
    have d3 : W3.cell? ⟨G, 3, none⟩ = some (.bool y.Gone) := B3.cell 3 _ rfl
    have d4 : W3.cell? ⟨G, 4, none⟩ = some (.string y.Value) := B3.cell 4 _ rfl
    have d5 : W3.cell? ⟨G, 5, none⟩ = some (.slice A6 y.Heads.length c6) := B3.cell 5 _ rfl
    have hbA := below_al W3 (.cells #[.int .i64 y.Time, .bool y.Keyed, .string y.Key, .bool y.Gone, .string y.Value, .slice A6 y.Heads.length c6] 53)
    have hbwA := below_tr hbw3 hbA
    have hbrA := below_tr hbr3 hbA
    have X := Box.new W3 #[.int .i64 y.Time, .bool y.Keyed, .string y.Key, .bool y.Gone, .string y.Value, .slice A6 y.Heads.length c6] 53
    obtain ⟨F6, hT6, hN6, hG6, _⟩ := HO6.out.below hbA
    have hTr := Record.mkT _ y hT6
    have HFx : Hid (Fresh wr F6) := Lib.hid ⟨hN6, fun b hb' => by have := hG6 b hb'; have := hs1'; omega⟩
    go_wp2_with (at_builtin; refine list_el (v := .slice A' k c') info_rec rfl (by decide) (by decide) rfl _ _ _ rfl Try.underlying46 rfl HO.out hbrA hb.size _ _ rfl hTr X HFx.out (by rw [List.length_take]; omega) ?_; intro A7 c7 W4 hO7 hgr hvb)
    have hbw7 := hbwA.grown hgr hbwA.size hvb
    go_roundg (gk - 1)
    case rel => exact ⟨k + 1, A7, c7, by omega, by go_num, by first | rfl | rw [List.length_take, Nat.min_eq_left hkc], Lib.hid (by rw [take_snoc HY.out]; rw [List.length_take, Nat.min_eq_left hkc] at hO7; exact hO7), hbw7⟩
    case measure => omega
end Go.Proofs.Ytiefpllmnmmdlaa.H
