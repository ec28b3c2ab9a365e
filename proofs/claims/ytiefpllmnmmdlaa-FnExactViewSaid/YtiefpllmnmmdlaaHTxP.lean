/-
What the texts of a log's folds share: maps and rows of the call's own, what is kept and what grows. Conditions: none.
-/
import Derived.Test.YtiefpllmnmmdlaaHAll2
import Derived.Test.YtiefpllmnmmdlaaHFacts
import Derived.Test.YtiefpllmnmmdlaaHOwn
import Derived.Maps.OwnSet
import Derived.Deep.RegionHeldLaw
namespace Go.Proofs.Ytiefpllmnmmdlaa.H
open Go.RowKit Go.Maps
set_option linter.unusedVariables false
set_option linter.unusedSimpArgs false
set_option maxRecDepth 100000
theorem law_int : Keyed Try.prog 3 := int_keyed Try.underlying3
theorem zero_int (w : World) : (zeroValue 3).run Try.prog w = .ok (.int .i64 0) w := by kernel_rfl
theorem ownsMap_move {H : Type} {w w' : World} {P : Program} {k : TypeId} {R : Value → Option (DataW H × List MemPlace)} {b n : Nat} {D : DataW H} (h : w.ownsMap P k R b n D) (hm : w'.heap[b]? = w.heap[b]?) : w'.ownsMap P k R b n D := by
  obtain ⟨es, clock, hb, r⟩ := h
  exact ⟨es, clock, hm.trans hb, r⟩
theorem ownsMap_lt {H : Type} {w : World} {P : Program} {k : TypeId} {R : Value → Option (DataW H × List MemPlace)} {b n : Nat} {D : DataW H} (h : w.ownsMap P k R b n D) : b < w.heap.size := by
  obtain ⟨es, clock, hb, r⟩ := h
  exact (Array.getElem?_eq_some_iff.1 hb).1
theorem ownsMap_below {H : Type} {w w' : World} {P : Program} {k : TypeId} {R : Value → Option (DataW H × List MemPlace)} {b n : Nat} {D : DataW H} (h : w.ownsMap P k R b n D) (hb : Below w.heap.size w w') : w'.ownsMap P k R b n D :=
  ownsMap_move h (hb.block b (ownsMap_lt h))
theorem Kp.refl (w : World) : Kp w w := fun _ _ h => h
theorem Kp.below {w w1 w2 : World} (h : Kp w w1) (hb : Below w1.heap.size w1 w2) : Kp w w2 := fun p u hp => later hb (h p u hp)
/-- A map has no cells: what a turn of it leaves has the cells there were. -/
theorem Kp.grown {w w1 w2 : World} {b : Nat} {H : Type} {P : Program} {k : TypeId} {R : Value → Option (DataW H × List MemPlace)} {n : Nat} {D : DataW H} (h : Kp w w1) (hm : w1.ownsMap P k R b n D) (hg : w1.grownBy w2 (some b)) : Kp w w2 := fun p u hp => by
  obtain ⟨es, clock, hb, _⟩ := hm
  have h1 := h p u hp
  exact hg.cell h1 (fun e => by
    injection e with e
    subst e
    simp [World.cell?, hb] at h1)
/-- The append to a row of the call's own. -/
theorem Kp.own {w w1 w2 : World} {v : Value} (h : Kp w w1) (hv : ∀ k, v.ownBlock = some k → w.heap.size ≤ k) (hg : w1.grownBy w2 v.ownBlock) : Kp w w2 := fun p u hp => by
  have h1 := h p u hp
  exact hg.cell h1 (fun e => by
    have h2 := World.block_lt_of_cell? w _ hp
    have := hv _ e.symm
    omega)
theorem ownsMap_own {H : Type} {w w' : World} {P : Program} {k : TypeId} {R : Value → Option (DataW H × List MemPlace)} {b n B : Nat} {D : DataW H} {v : Value} (h : w.ownsMap P k R b n D) (hg : w.grownBy w' v.ownBlock) (hv : ∀ k, v.ownBlock = some k → B ≤ k) (hB : b < B) : w'.ownsMap P k R b n D :=
  ownsMap_move h (hg.5 b (ownsMap_lt h) (fun e => by have := hv b e.symm; omega))
theorem first_of {H : Type} {D z : DataW H} {k : Lit} {a c : Int} (h1 : D.atKey k z = .lit (.int .i64 a)) (h2 : D.atKey k z = .lit (.int .i64 c)) : c = a := by
  rw [h1] at h2
  injection h2 with h2
  injection h2 with _ h2
  exact h2.symm
theorem OwnR.blt {α : Type} {d : Ki α} {e B : Nat} {w : World} {xs : List α} {v : Value} (h : OwnR d e B w xs v) : ∀ k, v.ownBlock = some k → k < w.heap.size := by
  obtain ⟨F, h1, h2, h3⟩ := h
  obtain ⟨inner, Fs, ho, _⟩ := h1
  exact fun k hk => (ho.lt k hk).2
/-- What stands behind a turn of a map. -/
theorem turn_all {α : Type} {d : Ki α} {e B B0 bm : Nat} {w w2 w1 wd : World} {xs : List α} {v : Value} {H : Type} {P : Program} {k : TypeId} {R : Value → Option (DataW H × List MemPlace)} {n : Nat} {D : DataW H}
    (hm : w1.ownsMap P k R bm n D) (hg : w1.grownBy wd (some bm)) (hO : OwnR d e B w1 xs v) (hK : Kp w2 w1) (hb : Below B0 w w1) (h1 : bm < B) (h2 : B0 ≤ bm) (hsz : B ≤ w1.heap.size) : OwnR d e B wd xs v ∧ Kp w2 wd ∧ Below B0 w wd ∧ B ≤ wd.heap.size := by
  refine ⟨?_, hK.grown hm hg, hb.grown hg (by have := ownsMap_lt hm; omega) (fun k hk => by injection hk with hk; omega), Nat.le_trans hsz hg.size⟩
  have hbk := hO.blk
  obtain ⟨F, q1, q2, q3, q4⟩ := hO
  exact ⟨F, TP_frame (fun b hb' => hg.5 b (TP_lt q1 b hb') (fun e => by injection e with e; have := q3 b hb'; omega)) q1, q2, q3, q4.move (fun k hk => hg.5 k (q4.lt k hk) (fun e => by injection e with e; have := hbk k hk; omega))⟩
/-- What a round's batch is. -/
def fOk (b : Batch) : Prop := (-1 ≤ b.Producer ∧ b.Producer ≤ 1000000000) ∧ (0 ≤ b.Base ∧ b.Base ≤ 1000000000) ∧ (0 ≤ b.Flags ∧ b.Flags ≤ 7) ∧ (4 ≤ b.Flags → bit2 b.Flags = true ∧ b.Records.length = 1)  ∧ 1 ≤ b.Records.length
theorem fOk_of {b : Batch} (h : batchOk b = true) : fOk b := by
  unfold batchOk bA bA0 bM inB at h
  simp only [Bool.and_eq_true, Bool.or_eq_true, decide_eq_true_eq, Bool.not_eq_true', decide_eq_false_iff_not, beq_iff_eq] at h
  unfold fOk
  refine ⟨?_, ?_, ?_, ?_, ?_⟩
  · omega
  · omega
  · omega
  · intro h4
    rcases h.2 with h | h
    · omega
    · exact h.1
  · omega
section
variable {α : Type} {d : Ki α} {e : Nat} {w0 w w1 : World} {base : Nat} {xs ys : List α} {v : Value} {A : Option Addr}
theorem KO.lt (h : KO d e w0 w base xs v) : ∀ k, v.ownBlock = some k → k < w.heap.size := fun k hk => by
  obtain ⟨inner, ho, _⟩ := h
  exact (ho.lt k hk).2
theorem KO.mono {base' : Nat} (h : KO d e w0 w base xs v) (hb : base' ≤ base) : KO d e w0 w base' xs v := by
  obtain ⟨inner, ho, h1, hx⟩ := h
  refine ⟨inner, ⟨ho.1, ?_⟩, h1, hx⟩
  rcases ho.2 with h2 | ⟨g, cap, cur, hv, hg, r⟩
  · exact .inl h2
  · exact .inr ⟨g, cap, cur, hv, Nat.le_trans hb hg, r⟩
theorem KO.form (h : KO d e w0 w base xs v) : ∃ A c, v = .slice A xs.length c ∧ xs.length ≤ c := by
  obtain ⟨inner, ho, _⟩ := h
  obtain ⟨A, c, rfl, hc, _, _⟩ := own_read ho
  exact ⟨A, c, rfl, hc⟩
/-- Kinds that lead nowhere. -/
theorem KO.flatRead (hfl : ∀ x cs, d.K w0 x cs → d.K w x cs) (h : KO d e w0 w base xs v) : ∃ A c, v = .slice A xs.length c ∧ xs.length ≤ c ∧ Row d w A xs := by
  obtain ⟨inner, ho, _, hx⟩ := h
  obtain ⟨A, c, rfl, hc, _, hA⟩ := own_read ho
  refine ⟨A, c, rfl, hc, fun hp => ?_⟩
  obtain ⟨a, rfl, ha⟩ := hA hp
  exact ⟨a, rfl, fun i x hi => ⟨_, hfl _ _ (hx i x hi), fun j u hj => ha _ u (chunk_get hj)⟩⟩
theorem KO.own (hT : ∀ x cs, d.K w0 x cs → d.T w [] x cs) (h : KO d e w0 w base xs v) : OwnR d e base w xs v := by
  obtain ⟨inner, ho, _, hx⟩ := h
  refine ⟨v.ownBlock.toList, ⟨inner, List.replicate xs.length [], ownsL_of ho, by simp, Nat.le_refl _, by simp, fun i x hi => ⟨[], by simp [List.getElem?_replicate, (List.getElem?_eq_some_iff.1 hi).1], hT _ _ (hx i x hi)⟩⟩, ?_, fun b hb => (ho.lt b (by simpa using hb)).1, Ex.of ho⟩
  cases v.ownBlock <;> simp
theorem Row.take (h : Row d w A xs) (n : Nat) : Row d w A (xs.take n) := fun hp => by
  rw [List.length_take] at hp
  obtain ⟨a, ha, hx⟩ := h (by omega)
  exact ⟨a, ha, fun i x hi => hx i x (by
    rw [List.getElem?_take] at hi
    split at hi
    · exact hi
    · cases hi)⟩
theorem Row.drop {ad : Addr} (h : Row d w (some ad) xs) (n : Nat) : Row d w (some (ad.add (n * d.sz))) (xs.drop n) := fun hp => by
  rw [List.length_drop] at hp
  obtain ⟨a, ha, hx⟩ := h (by omega)
  cases ha
  refine ⟨_, rfl, fun i x hi => ?_⟩
  rw [List.getElem?_drop] at hi
  obtain ⟨cs, hk, hc⟩ := hx _ x hi
  refine ⟨cs, hk, fun j u hj => ?_⟩
  have h1 := hc j u hj
  rw [Nat.add_mul, Nat.add_assoc] at h1
  rwa [Addr.add_add]
/-- The run of 'append(s, x...)', s the call's own. -/
theorem run_KO {P : Program} (t ty : TypeId) (i : TypeInfo) (z : Value) (bytes : Nat) (ht : P.underlying t = some (.slice e)) (hi : P.info? e = some i) (hz : i.zero = some z)
    (hsize : i.size = d.sz) (hby : i.bytes = bytes) (hzs : z.cells.size = d.sz) (hsz : 0 < d.sz) (hK : KO d e w0 w base xs v) (c : Nat) (hr : Row d w A ys) (hfl : ∀ x cs, d.K w x cs → d.K w0 x cs)
    (h63 : xs.length + ys.length ≤ maxLen) (hbytes : (xs.length + ys.length) * bytes ≤ 140737488355328) (hbase : base ≤ w.heap.size) :
    ∃ v' w', (Builtin.append_ #[t, t] ty #[v, .slice A ys.length c]).run P w = .ok v' w' ∧ KO d e w0 w' base (xs ++ ys) v' ∧ w.grownBy w' v.ownBlock ∧ (v'.ownBlock = v.ownBlock ∨ v'.ownBlock = some w.heap.size) := by
  have hK' := hK
  obtain ⟨inner, hown, ho1, hin⟩ := hK
  cases A with
  | none =>
    have h0 : ys.length = 0 := by
      rcases Nat.eq_zero_or_pos ys.length with h | h
      · exact h
      · obtain ⟨_, h, _⟩ := hr h; cases h
    have hy : ys = [] := List.length_eq_zero_iff.1 h0
    subst hy
    exact ⟨v, w, run_append_nilc (P := P) (w := w) base t ty e i d.sz c ht hi v _ _ hown, by rw [List.append_nil]; exact hK', World.grownBy.refl _ _, .inl rfl⟩
  | some ad =>
    rcases Nat.eq_zero_or_pos ys.length with h0 | h0
    · have hy : ys = [] := List.length_eq_zero_iff.1 h0
      subst hy
      obtain ⟨v', w', hrun, h2, h3, _, h5⟩ := run_append_own_at (P := P) w base t ty e i z d.sz bytes ht hi hz hsize hby hzs hsz v _ inner hown ad 0 c [] (by simp) (by simp) (by simp) h63 hbytes hbase
      exact ⟨v', w', hrun, KO.append (ys := []) h2 hown.1 (by simp) ho1 (by simp) hin (by simp), h3, h5⟩
    · obtain ⟨ad', news, he, h1, h2, h3, h4⟩ := Row_news hr h0
      cases he
      obtain ⟨v', w', hrun, q2, q3, _, q5⟩ := run_append_own_at (P := P) w base t ty e i z d.sz bytes ht hi hz hsize hby hzs hsz v _ inner hown ad ys.length c news h1 h2 h3 h63 hbytes hbase
      exact ⟨v', w', hrun, KO.append q2 hown.1 h1 ho1 h3 hin (fun i x hi => hfl _ _ (h4 i x hi)), q3, q5⟩
theorem list_KO {P : Program} {ops : Array Oper} {rest : List Oper} {o : Oper} {a : Act} {Q : Exit → Act → World → Prop} (hgd : o.guard = none) (s x : Operand) (t : TypeId)
    (ho : o.op = .call { callee := .builtin .append, args := #[s, x], argTypes := #[t, t] })
    (i : TypeInfo) (z : Value) (bytes : Nat) (ht : P.underlying t = some (.slice e)) (hi : P.info? e = some i) (hz : i.zero = some z)
    (hsize : i.size = d.sz) (hby : i.bytes = bytes) (hzs : z.cells.size = d.sz) (hsz : 0 < d.sz) (hs : a.eval s = v) (hK : KO d e w0 w base xs v) (c : Nat) (hx : a.eval x = .slice A ys.length c) (hr : Row d w A ys) (hfl : ∀ x cs, d.K w x cs → d.K w0 x cs)
    (h63 : xs.length + ys.length ≤ maxLen) (hbytes : (xs.length + ys.length) * bytes ≤ 140737488355328) (hbase : base ≤ w.heap.size)
    (h : ∀ v' w', KO d e w0 w' base (xs ++ ys) v' → w.grownBy w' v.ownBlock → (v'.ownBlock = v.ownBlock ∨ v'.ownBlock = some w.heap.size) → wpList P ops Q rest (a.put o.dst v') w') : wpList P ops Q (o :: rest) a w := by
  refine wpList_plain hgd fun K hk => ?_
  obtain ⟨v', w', hr, h2, h3, h4⟩ := run_KO (P := P) t o.type i z bytes ht hi hz hsize hby hzs hsz hK c hr hfl h63 hbytes hbase
  unfold Oper.wp execOp
  simp only [ho, resolve, invoke, builtin, Sem.run_bind, Sem.run_pure, Result.andThen_ok, List.map_toArray, List.map_cons, List.map_nil, hs, hx, hr]
  exact hk _ _ (h v' w' h2 h3 h4)
theorem step_KO {P : Program} {ops : Array Oper} {o : Oper} {a : Act} {K : Act → World → Prop} {Q : Exit → Act → World → Prop} {E : Prop} (hgd : o.guard = none) (s x : Operand) (t : TypeId)
    (ho : o.op = .call { callee := .builtin .append, args := #[s, x], argTypes := #[t, t] })
    (i : TypeInfo) (z : Value) (bytes : Nat) (ht : P.underlying t = some (.slice e)) (hi : P.info? e = some i) (hz : i.zero = some z)
    (hsize : i.size = d.sz) (hby : i.bytes = bytes) (hzs : z.cells.size = d.sz) (hsz : 0 < d.sz) (hs : a.eval s = v) (hK : KO d e w0 w base xs v) (c : Nat) (hx : a.eval x = .slice A ys.length c) (hr : Row d w A ys) (hfl : ∀ x cs, d.K w x cs → d.K w0 x cs)
    (h63 : xs.length + ys.length ≤ maxLen) (hbytes : (xs.length + ys.length) * bytes ≤ 140737488355328) (hbase : base ≤ w.heap.size)
    (h : ∀ v' w', KO d e w0 w' base (xs ++ ys) v' → w.grownBy w' v.ownBlock → (v'.ownBlock = v.ownBlock ∨ v'.ownBlock = some w.heap.size) → K (a.put o.dst v') w') :
    if Region.wanted o (yielded ops a.tmps) = true then Oper.wp P o a w K Q else E := by
  have hw : Region.wanted o (yielded ops a.tmps) = true := by simp [Region.wanted, hgd]
  rw [if_pos hw]
  obtain ⟨v', w', hr, h2, h3, h4⟩ := run_KO (P := P) t o.type i z bytes ht hi hz hsize hby hzs hsz hK c hr hfl h63 hbytes hbase
  unfold Oper.wp execOp
  simp only [ho, resolve, invoke, builtin, Sem.run_bind, Sem.run_pure, Result.andThen_ok, List.map_toArray, List.map_cons, List.map_nil, hs, hx, hr]
  exact h v' w' h2 h3 h4
end
theorem lit_row {e : TypeId} {sz : Nat} (w : World) : (w.alloc (.cells #[] e)).ownsRow w.heap.size e sz (.slice (some ⟨w.heap.size, 0, none⟩) 0 0) 0 [] := World.ownsRow_lit (base := w.heap.size) (e := e) (size := sz) w #[] 0 (by simp) (by simp [maxLen]) (by simp)
theorem lit_KO {α : Type} {d : Ki α} {e : TypeId} {w0 : World} (w : World) : KO d e w0 (w.alloc (.cells #[] e)) w.heap.size [] (.slice (some ⟨w.heap.size, 0, none⟩) 0 0) := ⟨[], lit_row w, by simp, by simp⟩
theorem lit_own {α : Type} {d : Ki α} {e : TypeId} (w : World) : OwnR d e w.heap.size (w.alloc (.cells #[] e)) [] (.slice (some ⟨w.heap.size, 0, none⟩) 0 0) := by
  have h := lit_row (e := e) (sz := d.sz) w
  exact ⟨[w.heap.size], ⟨[], [], ownsL_of h, rfl, Nat.le_refl _, by simp [Value.ownBlock], by simp⟩, by simp, by simp, Ex.of h⟩
end Go.Proofs.Ytiefpllmnmmdlaa.H
