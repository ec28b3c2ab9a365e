/-
The reference's l8Open: what a log's batches leave open, what was given up: two rows of the call's own. Conditions: each contract's own premises.
-/
import Derived.Test.YtipemgjgimpmbaaHTx1
import Derived.Test.YtipemgjgimpmbaaHAll2
import Derived.Deep.RegionHeldLaw
namespace Go.Proofs.Ytipemgjgimpmbaa.H
open Go.RowKit
set_option linter.unusedVariables false
set_option linter.unusedSimpArgs false
set_option maxRecDepth 100000
section
variable {α : Type} {d : Ki α} {e : Nat} {w0 w w1 : World} {base : Nat} {xs ys : List α} {v : Value} {A : Option Addr}
theorem KO.lt (h : KO d e w0 w base xs v) : ∀ k, v.ownBlock = some k → k < w.heap.size := fun k hk => by
  obtain ⟨inner, ho, _⟩ := h
  exact (ho.lt k hk).2
theorem KO.mono {base' : Nat} (h : KO d e w0 w base xs v) (hb : base' ≤ base) : KO d e w0 w base' xs v := by
  obtain ⟨inner, ho, h1, hx⟩ := h
  refine ⟨inner, ⟨ho.1, ?_⟩, h1, hx⟩
  rcases ho.2 with h2 | ⟨g, cap, cur, hv, hg, r⟩
  · exact .inl h2
  · exact .inr ⟨g, cap, cur, hv, Nat.le_trans hb hg, r⟩
theorem KO.form (h : KO d e w0 w base xs v) : ∃ A c, v = .slice A xs.length c ∧ xs.length ≤ c := by
  obtain ⟨inner, ho, _⟩ := h
  obtain ⟨A, c, rfl, hc, _, _⟩ := own_read ho
  exact ⟨A, c, rfl, hc⟩
/-- Kinds that lead nowhere. -/
theorem KO.flatRead (hfl : ∀ x cs, d.K w0 x cs → d.K w x cs) (h : KO d e w0 w base xs v) : ∃ A c, v = .slice A xs.length c ∧ xs.length ≤ c ∧ Row d w A xs := by
  obtain ⟨inner, ho, _, hx⟩ := h
  obtain ⟨A, c, rfl, hc, _, hA⟩ := own_read ho
  refine ⟨A, c, rfl, hc, fun hp => ?_⟩
  obtain ⟨a, rfl, ha⟩ := hA hp
  exact ⟨a, rfl, fun i x hi => ⟨_, hfl _ _ (hx i x hi), fun j u hj => ha _ u (chunk_get hj)⟩⟩
theorem KO.own (hT : ∀ x cs, d.K w0 x cs → d.T w [] x cs) (h : KO d e w0 w base xs v) : OwnR d e base w xs v := by
  obtain ⟨inner, ho, _, hx⟩ := h
  refine ⟨v.ownBlock.toList, ⟨inner, List.replicate xs.length [], ownsL_of ho, by simp, Nat.le_refl _, by simp, fun i x hi => ⟨[], by simp [List.getElem?_replicate, (List.getElem?_eq_some_iff.1 hi).1], hT _ _ (hx i x hi)⟩⟩, ?_, fun b hb => (ho.lt b (by simpa using hb)).1, Ex.of ho⟩
  cases v.ownBlock <;> simp
theorem Row.take (h : Row d w A xs) (n : Nat) : Row d w A (xs.take n) := fun hp => by
  rw [List.length_take] at hp
  obtain ⟨a, ha, hx⟩ := h (by omega)
  exact ⟨a, ha, fun i x hi => hx i x (by
    rw [List.getElem?_take] at hi
    split at hi
    · exact hi
    · cases hi)⟩
theorem Row.drop {ad : Addr} (h : Row d w (some ad) xs) (n : Nat) : Row d w (some (ad.add (n * d.sz))) (xs.drop n) := fun hp => by
  rw [List.length_drop] at hp
  obtain ⟨a, ha, hx⟩ := h (by omega)
  cases ha
  refine ⟨_, rfl, fun i x hi => ?_⟩
  rw [List.getElem?_drop] at hi
  obtain ⟨cs, hk, hc⟩ := hx _ x hi
  refine ⟨cs, hk, fun j u hj => ?_⟩
  have h1 := hc j u hj
  rw [Nat.add_mul, Nat.add_assoc] at h1
  rwa [Addr.add_add]
/-- The run of 'append(s, x...)', s the call's own. -/
theorem run_KO {P : Program} (t ty : TypeId) (i : TypeInfo) (z : Value) (bytes : Nat) (ht : P.underlying t = some (.slice e)) (hi : P.info? e = some i) (hz : i.zero = some z)
    (hsize : i.size = d.sz) (hby : i.bytes = bytes) (hzs : z.cells.size = d.sz) (hsz : 0 < d.sz) (hK : KO d e w0 w base xs v) (c : Nat) (hr : Row d w A ys) (hfl : ∀ x cs, d.K w x cs → d.K w0 x cs)
    (h63 : xs.length + ys.length ≤ maxLen) (hbytes : (xs.length + ys.length) * bytes ≤ 140737488355328) (hbase : base ≤ w.heap.size) :
    ∃ v' w', (Builtin.append_ #[t, t] ty #[v, .slice A ys.length c]).run P w = .ok v' w' ∧ KO d e w0 w' base (xs ++ ys) v' ∧ w.grownBy w' v.ownBlock ∧ (v'.ownBlock = v.ownBlock ∨ v'.ownBlock = some w.heap.size) := by
  have hK' := hK
  obtain ⟨inner, hown, ho1, hin⟩ := hK
  cases A with
  | none =>
    have h0 : ys.length = 0 := by
      rcases Nat.eq_zero_or_pos ys.length with h | h
      · exact h
      · obtain ⟨_, h, _⟩ := hr h; cases h
    have hy : ys = [] := List.length_eq_zero_iff.1 h0
    subst hy
    exact ⟨v, w, run_append_nilc (P := P) (w := w) base t ty e i d.sz c ht hi v _ _ hown, by rw [List.append_nil]; exact hK', World.grownBy.refl _ _, .inl rfl⟩
  | some ad =>
    rcases Nat.eq_zero_or_pos ys.length with h0 | h0
    · have hy : ys = [] := List.length_eq_zero_iff.1 h0
      subst hy
      obtain ⟨v', w', hrun, h2, h3, _, h5⟩ := run_append_own_at (P := P) w base t ty e i z d.sz bytes ht hi hz hsize hby hzs hsz v _ inner hown ad 0 c [] (by simp) (by simp) (by simp) h63 hbytes hbase
      exact ⟨v', w', hrun, KO.append (ys := []) h2 hown.1 (by simp) ho1 (by simp) hin (by simp), h3, h5⟩
    · obtain ⟨ad', news, he, h1, h2, h3, h4⟩ := Row_news hr h0
      cases he
      obtain ⟨v', w', hrun, q2, q3, _, q5⟩ := run_append_own_at (P := P) w base t ty e i z d.sz bytes ht hi hz hsize hby hzs hsz v _ inner hown ad ys.length c news h1 h2 h3 h63 hbytes hbase
      exact ⟨v', w', hrun, KO.append q2 hown.1 h1 ho1 h3 hin (fun i x hi => hfl _ _ (h4 i x hi)), q3, q5⟩
theorem list_KO {P : Program} {ops : Array Oper} {rest : List Oper} {o : Oper} {a : Act} {Q : Exit → Act → World → Prop} (hgd : o.guard = none) (s x : Operand) (t : TypeId)
    (ho : o.op = .call { callee := .builtin .append, args := #[s, x], argTypes := #[t, t] })
    (i : TypeInfo) (z : Value) (bytes : Nat) (ht : P.underlying t = some (.slice e)) (hi : P.info? e = some i) (hz : i.zero = some z)
    (hsize : i.size = d.sz) (hby : i.bytes = bytes) (hzs : z.cells.size = d.sz) (hsz : 0 < d.sz) (hs : a.eval s = v) (hK : KO d e w0 w base xs v) (c : Nat) (hx : a.eval x = .slice A ys.length c) (hr : Row d w A ys) (hfl : ∀ x cs, d.K w x cs → d.K w0 x cs)
    (h63 : xs.length + ys.length ≤ maxLen) (hbytes : (xs.length + ys.length) * bytes ≤ 140737488355328) (hbase : base ≤ w.heap.size)
    (h : ∀ v' w', KO d e w0 w' base (xs ++ ys) v' → w.grownBy w' v.ownBlock → (v'.ownBlock = v.ownBlock ∨ v'.ownBlock = some w.heap.size) → wpList P ops Q rest (a.put o.dst v') w') : wpList P ops Q (o :: rest) a w := by
  refine wpList_plain hgd fun K hk => ?_
  obtain ⟨v', w', hr, h2, h3, h4⟩ := run_KO (P := P) t o.type i z bytes ht hi hz hsize hby hzs hsz hK c hr hfl h63 hbytes hbase
  unfold Oper.wp execOp
  simp only [ho, resolve, invoke, builtin, Sem.run_bind, Sem.run_pure, Result.andThen_ok, List.map_toArray, List.map_cons, List.map_nil, hs, hx, hr]
  exact hk _ _ (h v' w' h2 h3 h4)
theorem step_KO {P : Program} {ops : Array Oper} {o : Oper} {a : Act} {K : Act → World → Prop} {Q : Exit → Act → World → Prop} {E : Prop} (hgd : o.guard = none) (s x : Operand) (t : TypeId)
    (ho : o.op = .call { callee := .builtin .append, args := #[s, x], argTypes := #[t, t] })
    (i : TypeInfo) (z : Value) (bytes : Nat) (ht : P.underlying t = some (.slice e)) (hi : P.info? e = some i) (hz : i.zero = some z)
    (hsize : i.size = d.sz) (hby : i.bytes = bytes) (hzs : z.cells.size = d.sz) (hsz : 0 < d.sz) (hs : a.eval s = v) (hK : KO d e w0 w base xs v) (c : Nat) (hx : a.eval x = .slice A ys.length c) (hr : Row d w A ys) (hfl : ∀ x cs, d.K w x cs → d.K w0 x cs)
    (h63 : xs.length + ys.length ≤ maxLen) (hbytes : (xs.length + ys.length) * bytes ≤ 140737488355328) (hbase : base ≤ w.heap.size)
    (h : ∀ v' w', KO d e w0 w' base (xs ++ ys) v' → w.grownBy w' v.ownBlock → (v'.ownBlock = v.ownBlock ∨ v'.ownBlock = some w.heap.size) → K (a.put o.dst v') w') :
    if Region.wanted o (yielded ops a.tmps) = true then Oper.wp P o a w K Q else E := by
  have hw : Region.wanted o (yielded ops a.tmps) = true := by simp [Region.wanted, hgd]
  rw [if_pos hw]
  obtain ⟨v', w', hr, h2, h3, h4⟩ := run_KO (P := P) t o.type i z bytes ht hi hz hsize hby hzs hsz hK c hr hfl h63 hbytes hbase
  unfold Oper.wp execOp
  simp only [ho, resolve, invoke, builtin, Sem.run_bind, Sem.run_pure, Result.andThen_ok, List.map_toArray, List.map_cons, List.map_nil, hs, hx, hr]
  exact h v' w' h2 h3 h4
end
theorem gone_flat {w w1 : World} : ∀ x cs, kGone.K w x cs → kGone.K w1 x cs := fun _ _ h => h
theorem gone_T {w w1 : World} : ∀ x cs, kGone.K w x cs → kGone.T w1 [] x cs := fun x cs h => by
  obtain rfl := Gone.opn h
  exact Gone.mkT _ _
theorem Row_one {w : World} {g : Nat} {y : Gone} (h : Box w g #[.int .i64 y.Producer, .int .i64 y.First, .int .i64 y.Last]) : Row kGone w (some ⟨g, 0, none⟩) [y] := fun _ => ⟨_, rfl, fun i x hi => by
  obtain rfl : i = 0 := by have := (List.getElem?_eq_some_iff.1 hi).1; simp at this; omega
  simp at hi
  subst hi
  refine ⟨_, Gone.mk_ _ _, fun j u hj => ?_⟩
  have hcj := h j u (by simpa using hj)
  by_cases e0 : j = 0
  · subst e0; exact hcj
  · simpa [Addr.add, e0] using hcj⟩
abbrev KG (w wr : World) (xs : List Gone) (v : Value) : Prop := KO kGone 78 w wr w.heap.size xs v
theorem list_gone {w0 w : World} {ops : Array Oper} {rest : List Oper} {o : Oper} {a : Act} {Q : Exit → Act → World → Prop} (hgd : o.guard = none) (s x : Operand) (t : TypeId)
    (ho : o.op = .call { callee := .builtin .append, args := #[s, x], argTypes := #[t, t] }) (ht : t = 26) {xs ys : List Gone} {v : Value} {A : Option Addr} (hs : a.eval s = v) (hK : KG w0 w xs v) (c : Nat) (hx : a.eval x = .slice A ys.length c) (hr : Row kGone w A ys)
    (hn : xs.length + ys.length ≤ 1000000) (hbase : w0.heap.size ≤ w.heap.size)
    (h : ∀ v' w', KG w0 w' (xs ++ ys) v' → w.grownBy w' v.ownBlock → (v'.ownBlock = v.ownBlock ∨ v'.ownBlock = some w.heap.size) → wpList Try.prog ops Q rest (a.put o.dst v') w') : wpList Try.prog ops Q (o :: rest) a w := by
  subst ht
  obtain ⟨i0, hi, hz0, hz1, hz2⟩ := info_parts info_gone
  exact list_KO (d := kGone) hgd s x _ ho i0 _ 24 Try.underlying26 hi hz0 hz1 hz2 rfl (by decide) hs hK c hx hr gone_flat (by simp only [maxLen]; omega) (by omega) hbase h
theorem step_gone {w0 w : World} {ops : Array Oper} {o : Oper} {a : Act} {K : Act → World → Prop} {Q : Exit → Act → World → Prop} {E : Prop} (hgd : o.guard = none) (s x : Operand) (t : TypeId)
    (ho : o.op = .call { callee := .builtin .append, args := #[s, x], argTypes := #[t, t] }) (ht : t = 26) {xs ys : List Gone} {v : Value} {A : Option Addr} (hs : a.eval s = v) (hK : KG w0 w xs v) (n c : Nat) (hx : a.eval x = .slice A n c) (hny : n = ys.length) (hr : Row kGone w A ys)
    (hn : xs.length + ys.length ≤ 1000000) (hbase : w0.heap.size ≤ w.heap.size)
    (h : ∀ v' w', KG w0 w' (xs ++ ys) v' → w.grownBy w' v.ownBlock → (v'.ownBlock = v.ownBlock ∨ v'.ownBlock = some w.heap.size) → K (a.put o.dst v') w') :
    if Region.wanted o (yielded ops a.tmps) = true then Oper.wp Try.prog o a w K Q else E := by
  subst ht hny
  obtain ⟨i0, hi, hz0, hz1, hz2⟩ := info_parts info_gone
  exact step_KO (d := kGone) hgd s x _ ho i0 _ 24 Try.underlying26 hi hz0 hz1 hz2 rfl (by decide) hs hK c hx hr gone_flat (by simp only [maxLen]; omega) (by omega) hbase h
theorem lit_gone {w0 : World} (w : World) : KO kGone 78 w0 (w.alloc (.cells #[] 78)) w.heap.size [] (.slice (some ⟨w.heap.size, 0, none⟩) 0 0) := by
  have h := World.ownsRow_lit (base := w.heap.size) (e := 78) (size := 3) w #[] 0 (by simp) (by simp [maxLen]) (by simp)
  exact ⟨[], h, by simp, by simp⟩
/-- The two rows lie apart. -/
def Apart (v1 v2 : Value) : Prop := ∀ k, v1.ownBlock = some k → v2.ownBlock = some k → False
theorem KG_far {w w1 w2 : World} {xs : List Gone} {v1 v2 : Value} (h : KG w w1 xs v2) (hap : Apart v1 v2) (hgr : w1.grownBy w2 v1.ownBlock) : KG w w2 xs v2 := KO.grown h (fun k hk => hgr.5 k (h.lt k hk) (fun e => hap k e.symm hk))
theorem Apart.grown {v1 v2 v' : Value} {n : Nat} (hap : Apart v1 v2) (hat : v'.ownBlock = v1.ownBlock ∨ v'.ownBlock = some n) (hlt : ∀ k, v2.ownBlock = some k → k < n) : Apart v' v2 := fun k h1 h2 => by
  rcases hat with e | e
  · exact hap k (by rw [← e]; exact h1) h2
  · rw [e] at h1
    injection h1 with h1
    have := hlt k h2
    omega
theorem Apart.symm {v1 v2 : Value} (h : Apart v1 v2) : Apart v2 v1 := fun k h1 h2 => h k h2 h1
theorem block_add (a : Addr) (n : Nat) : (a.add n).block = a.block := by
  unfold Addr.add
  split <;> rfl
theorem gone_step {w wr W0 wc : World} {os gs : List Gone} {v1 u5 v' : Value} (y : Below wr.heap.size wr W0) (hbb : Below w.heap.size w wr) (hK1 : KG w wr os v1) (hK2 : KG w wr gs u5) (hap : Apart v1 u5) (hgr : W0.grownBy wc u5.ownBlock)
    (hat : v'.ownBlock = u5.ownBlock ∨ v'.ownBlock = some W0.heap.size) (hbs : w.heap.size ≤ wr.heap.size) : KG w wc os v1 ∧ Apart v1 v' ∧ Below w.heap.size w wc :=
  ⟨KG_far (hK1.below y) hap.symm hgr, (Apart.grown hap.symm hat (fun k hk => Nat.lt_of_lt_of_le (hK1.lt k hk) y.size)).symm, (below_tr hbb y).grown hgr (Nat.le_trans hbs y.size) hK2.base⟩
/-- Between the appends. -/
def Stp (w : World) (gs : List Gone) (u : Value) (B : Nat) (W : World) (v : Value) : Prop := KG w W gs u ∧ Below w.heap.size w W ∧ (∀ k, v.ownBlock = some k → B ≤ k) ∧ B ≤ W.heap.size ∧ w.heap.size ≤ B ∧ ∀ k, u.ownBlock = some k → k < B
theorem Stp.start {w wr W0 : World} {gs : List Gone} {u : Value} (b : Below wr.heap.size wr W0) (hbb : Below w.heap.size w wr) (hK : KG w wr gs u) (hbs : w.heap.size ≤ wr.heap.size) : Stp w gs u wr.heap.size W0 (.slice (some ⟨wr.heap.size, 0, none⟩) 0 0) :=
  ⟨hK.below b, below_tr hbb b, fun k hk => by cases hk; exact Nat.le_refl _, b.size, hbs, hK.lt⟩
theorem Stp.app {w W0 W1 : World} {gs : List Gone} {u v0 v1 : Value} {B : Nat} (h : Stp w gs u B W0 v0) (hgr : W0.grownBy W1 v0.ownBlock) (hat : v1.ownBlock = v0.ownBlock ∨ v1.ownBlock = some W0.heap.size) : Stp w gs u B W1 v1 := by
  obtain ⟨h1, h2, h3, h4, h5, h6⟩ := h
  refine ⟨KO.grown h1 (fun k hk => hgr.5 k (h1.lt k hk) (fun e => by have := h3 k e.symm; have := h6 k hk; omega)), h2.grown hgr (by omega) (fun k hk => by have := h3 k hk; omega), fun k hk => ?_, Nat.le_trans h4 hgr.size, h5, h6⟩
  rcases hat with e | e
  · exact h3 k (by rw [← e]; exact hk)
  · rw [e] at hk
    injection hk with hk
    omega
theorem Stp.apart {w W : World} {gs : List Gone} {u v : Value} {B : Nat} (h : Stp w gs u B W v) : Apart v u := fun k h1 h2 => by
  have := h.2.2.1 k h1
  have := h.2.2.2.2.2 k h2
  omega
theorem al_drew1 (w : World) : Below w.heap.size w (w.drew.alloc (.cells #[] 78)) := have b := below_al w (.cells #[] 78); ⟨b.os, b.tape, b.output, b.size, b.block⟩
theorem al_drew2 (w : World) : Below w.heap.size w (w.alloc (.cells #[] 78)).drew := have b := below_al w (.cells #[] 78); ⟨b.os, b.tape, b.output, b.size, b.block⟩
theorem ag_drew1 (w : World) (cs : Array Value) : Below w.heap.size w (w.drew.alloc (.cells cs 78)) := have b := below_al w (.cells cs 78); ⟨b.os, b.tape, b.output, b.size, b.block⟩
theorem ag_drew2 (w : World) (cs : Array Value) : Below w.heap.size w (w.alloc (.cells cs 78)).drew := have b := below_al w (.cells cs 78); ⟨b.os, b.tape, b.output, b.size, b.block⟩
theorem box_drew1 (w : World) (cs : Array Value) : Box (w.drew.alloc (.cells cs 78)) w.heap.size cs := fun j u h => Box.new w.drew cs 78 j u h
theorem box_drew2 (w : World) (cs : Array Value) : Box (w.alloc (.cells cs 78)).drew w.heap.size cs := fun j u h => Box.new w cs 78 j u h
def GivesOp (w : World) (s : List Gone × List Gone) (en : Ending) (w' : World) : Prop := ∃ v1 v2, en = .returned (.tuple #[v1, v2]) ∧ KG w w' s.1 v1 ∧ KG w w' s.2 v2 ∧ Below w.heap.size w w'
set_option maxHeartbeats 8000000 in
theorem l8Open_c (w : World) (L : List Batch) {A : Option Addr} {c : Nat} (hc : L.length ≤ c) (hr : Row kBatch w A L) (hl : L.length ≤ 400) (hF : ∀ b ∈ L, fOk b) : Calls Try.prog 43 #[.slice A L.length c] w (GivesOp w (txF L)) := by
  have HF := Lib.hid hF
  clear hF
  have hu := Try.underlying78
  have hu2 := Try.underlying26
  have hu3 := Try.underlying52
  have hu4 := Try.underlying70
  go_enter Try.func43, Try.ntmps43
  go_wp2
  go_loopg [4, 5, 6] L.length (fun g v4 v5 v6 wr => ∃ (k : Nat) (v1 v2 : Value), k + g = L.length ∧ v6 = .int .i64 k ∧ v4 = v1 ∧ v5 = v2 ∧ KG w wr (txF (L.take k)).1 v1 ∧ KG w wr (txF (L.take k)).2 v2 ∧ Apart v1 v2 ∧ Below w.heap.size w wr)
  case atStart =>
    refine ⟨0, _, _, by omega, rfl, rfl, rfl, ?_, ?_, ?_, below_tr (below_al _ _) (below_al _ _)⟩
    · exact (KO.below (lit_gone w) (below_al _ _))
    · have h := lit_gone (w0 := w) (w.alloc (.cells #[] 78))
      rw [size_al] at h
      exact h.mono (by omega)
    · intro k h1 h2
      simp [Value.ownBlock] at h1 h2
      omega
  case round =>
    obtain ⟨k, v1, v2, hk, rfl, rfl, rfl, hK1, hK2, hap, hb⟩ := hrel
    by_cases hlt : k < L.length
    case neg =>
      rw [List.take_of_length_le (by omega)] at hK1 hK2
      go_wp2
      go_ret2
      exact ⟨_, _, rfl, hK1, hK2, hb⟩
    have hrr := Row_below hr hb
    obtain ⟨bd, b, A6, c6, rfl, hbx, r0, r1, r2, r3, r4, r5, r6, l6, g6⟩ := Batch.at hrr k hlt
    obtain ⟨⟨fp1, fp2⟩, ⟨fb1, fb2⟩, ⟨ff1, ff2⟩, fm, fr⟩ := HF.out b (List.mem_of_getElem? hbx)
    have HX := Lib.hid (txF_step hbx)
    have hl1 := (txF_len L k).1
    have hl2 := (txF_len L k).2
    have HO := Lib.hid (txF_once (L.take k))
    generalize txF (L.take k) = s at hK1 hK2 HX hl1 hl2 HO
    obtain ⟨os, gs⟩ := s
    clear hbx hrr
    have Fm := Lib.hid fm
    clear fm
    by_cases h2 : b.Flags / 2 % 2 = 1
    case neg =>
      have h3 : b.Flags / 2 % 2 = 0 := by omega
      have HX2 := Lib.hid (show txF (L.take (k + 1)) = (os, gs) by
        rw [HX.out]
        unfold txB
        have hb2 : bit2 b.Flags = false := by simp [bit2, h3]
        have h4 : ¬ 4 ≤ b.Flags := fun h4 => by have := (Fm.out h4).1; rw [hb2] at this; cases this
        split
        · rw [if_neg h4, hb2]; rfl
        · rw [if_neg h4])
      go_wp2
      go_roundg (gk - 1)
      case rel => exact ⟨k + 1, _, _, by omega, by go_num, rfl, rfl, by rw [HX2.out]; exact hK1.below (below_al _ _), by rw [HX2.out]; exact hK2.below (below_al _ _), hap, below_tr hb (below_al _ _)⟩
      case measure => omega
    obtain ⟨A4, c4, rfl, hc4, hr4⟩ := hK1.flatRead gone_flat
    have hK1a := hK1.below (below_al wr (.cells #[.int .i64 b.Base, .int .i64 b.Epoch, .int .i64 b.Producer, .int .i64 b.Turn, .int .i64 b.Seq, .int .i64 b.Flags, .slice A6 b.Records.length c6] 52))
    have hK2a := hK2.below (below_al wr (.cells #[.int .i64 b.Base, .int .i64 b.Epoch, .int .i64 b.Producer, .int .i64 b.Turn, .int .i64 b.Seq, .int .i64 b.Flags, .slice A6 b.Records.length c6] 52))
    have hba := below_tr hb (below_al wr (.cells #[.int .i64 b.Base, .int .i64 b.Epoch, .int .i64 b.Producer, .int .i64 b.Turn, .int .i64 b.Seq, .int .i64 b.Flags, .slice A6 b.Records.length c6] 52))
    have hr4a := Row_below hr4 (below_al wr (.cells #[.int .i64 b.Base, .int .i64 b.Epoch, .int .i64 b.Producer, .int .i64 b.Turn, .int .i64 b.Seq, .int .i64 b.Flags, .slice A6 b.Records.length c6] 52))
    have g6a := Row_below g6 (below_al wr (.cells #[.int .i64 b.Base, .int .i64 b.Epoch, .int .i64 b.Producer, .int .i64 b.Turn, .int .i64 b.Seq, .int .i64 b.Flags, .slice A6 b.Records.length c6] 52))
    have ta := Box.new wr #[.int .i64 b.Base, .int .i64 b.Epoch, .int .i64 b.Producer, .int .i64 b.Turn, .int .i64 b.Seq, .int .i64 b.Flags, .slice A6 b.Records.length c6] 52
    have hsz1 : (wr.alloc (.cells #[.int .i64 b.Base, .int .i64 b.Epoch, .int .i64 b.Producer, .int .i64 b.Turn, .int .i64 b.Seq, .int .i64 b.Flags, .slice A6 b.Records.length c6] 52)).heap.size = wr.heap.size + 1 := size_al _ _
    have hu5 := Lib.hid hK2.lt
    clear hK1 hK2 hr4 g6
    go_upto_region 10 with fail
    generalize wr.alloc (.cells #[.int .i64 b.Base, .int .i64 b.Epoch, .int .i64 b.Producer, .int .i64 b.Turn, .int .i64 b.Seq, .int .i64 b.Flags, .slice A6 b.Records.length c6] 52) = W1 at hK1a hK2a hba hr4a g6a ta hsz1 ⊢
    clear r0 r1 r2 r3 r4 r5 r6 hb
    have hbw := hba.size
    obtain ⟨B7, hB7⟩ : ∃ n, n = wr.heap.size := ⟨_, rfl⟩
    go_loopg [8, 9] os.length (fun g v8 v9 wi => ∃ j : Nat, j + g = os.length ∧ v9 = .int .i64 j ∧ v8 = .int .i64 (atOf os b.Producer j) ∧ Below W1.heap.size W1 wi)
    case atStart => exact ⟨0, by omega, rfl, by rw [atOf_zero], Below.refl _ _⟩
    case round =>
      obtain ⟨j, hj, rfl, rfl, hbi⟩ := hrel
      have t2 := (ta.later hbi) 2 _ rfl
      by_cases hlt2 : j < os.length
      case pos =>
        obtain ⟨ad, g, rfl, hgx, q0, q1, q2⟩ := Gone.at (Row_below hr4a hbi) j hlt2
        have HS := Lib.hid (atOf_step hgx b.Producer)
        have Hbi := fun n => below_dn hbi n
        clear hgx
        go_upto_region 12 with fail
        by_cases hp : g.Producer = b.Producer
        · have HS2 := Lib.hid (show atOf os b.Producer (j + 1) = j by rw [HS.out, if_pos hp])
          go_quiet (fail)
          go_wp2
          go_roundg (gk - 1)
          case rel => exact ⟨j + 1, by omega, by go_num, by rw [HS2.out], Hbi _⟩
          case measure => omega
        · have HS2 := Lib.hid (show atOf os b.Producer (j + 1) = atOf os b.Producer j by rw [HS.out, if_neg hp])
          go_quiet (fail)
          go_wp2
          go_roundg (gk - 1)
          case rel => exact ⟨j + 1, by omega, by go_num, by rw [HS2.out], Hbi _⟩
          case measure => omega
      obtain rfl : j = os.length := by omega
      have hK1b := Lib.hid (hK1a.below hbi)
      have hK2b := Lib.hid (hK2a.below hbi)
      have hbb := Lib.hid (below_tr hba hbi)
      have hr4b := Lib.hid (Row_below hr4a hbi)
      have g6b := Row_below g6a hbi
      have tb := ta.later hbi
      have t0 := tb 0 _ rfl
      have t5 := tb 5 _ rfl
      have t6 := tb 6 _ rfl
      have hbs : Hid (w.heap.size ≤ wr.heap.size) := Lib.hid (by have := hbi.size; omega)
      have Tb := Lib.hid tb
      clear tb hK1a hK2a hba hr4a g6a ta hsz1
      cases hg : opGet os b.Producer with
      | none =>
        have hat := atOf_none hg _ (Nat.le_refl _)
        by_cases h4 : 4 ≤ b.Flags
        · have HX2 := Lib.hid (show txF (L.take (k + 1)) = (os, gs) by rw [HX.out]; unfold txB; rw [hg]; simp only; rw [if_pos h4])
          rw [hat]
          go_wp2
          go_roundg (L.length - k - 1)
          case rel => exact ⟨k + 1, _, _, by omega, by go_num, rfl, rfl, by rw [HX2.out]; exact hK1b.out, by rw [HX2.out]; exact hK2b.out, hap, hbb.out⟩
          case measure => omega
        · have HX2 := Lib.hid (show txF (L.take (k + 1)) = (os ++ [⟨b.Producer, b.Base, 0⟩], gs) by rw [HX.out]; unfold txB; rw [hg]; simp only; rw [if_neg h4, if_pos (by simp [bit2, h2])])
          rw [hat]
          go_wp2_with (at_builtin; refine list_gone rfl _ _ _ rfl rfl (ys := [⟨b.Producer, b.Base, 0⟩]) rfl (hK1b.out.below (below_al _ _)) _ rfl (Row_one (Box.new _ _ _)) (by simp; omega) (by rw [size_al]; have := hbs.out; omega) ?_; intro v' wa hKa hgra hata)
          go_roundg (L.length - k - 1)
          case rel => exact ⟨k + 1, _, _, by omega, by go_num, rfl, rfl, by rw [HX2.out]; exact hKa, by rw [HX2.out]; exact KG_far (hK2b.out.below (below_al _ _)) hap hgra, hap.grown hata (fun k hk => by rw [size_al]; have := hK2b.out.lt k hk; omega), (below_tr hbb.out (below_al _ _)).grown hgra (by rw [size_al]; have := hbs.out; omega) hK1b.out.base⟩
          case measure => omega
      | some g =>
        obtain ⟨i, hi, hgx, hat, hdel⟩ := atOf_some HO.out hg
        have Hi := Lib.hid hi
        have hat2 := hat _ (Nat.le_refl _)
        rw [if_pos hi] at hat2
        clear hat
        by_cases h4 : 4 ≤ b.Flags
        case neg =>
          have HX2 := Lib.hid (show txF (L.take (k + 1)) = (os, gs) by rw [HX.out]; unfold txB; rw [hg]; simp only; rw [if_neg h4])
          rw [hat2]
          go_wp2
          go_roundg (L.length - k - 1)
          case rel => exact ⟨k + 1, _, _, by omega, by go_num, rfl, rfl, by rw [HX2.out]; exact hK1b.out, by rw [HX2.out]; exact hK2b.out, hap, hbb.out⟩
          case measure => omega
        obtain ⟨ad, r, A5, c5, rfl, hrx, p0, p1, p2, p3, p4, p5, l5, g5⟩ := Record.at g6b 0 (by omega)
        have HAb := Lib.hid (ab_of hrx (Fm.out h4).2)
        clear hrx
        simp [Addr.add] at p0 p1 p2 p3 p4 p5
        rw [hat2]
        have hil : i < 400 := by omega
        go_upto_region 18 with fail
        go_upto_region 19 with fail
        · have hab : isAb b = true := by rw [HAb.out]; grind
          have HX2 := Lib.hid (show txF (L.take (k + 1)) = (opDel os b.Producer, gs ++ [⟨b.Producer, g.First, b.Base⟩]) by rw [HX.out]; unfold txB; rw [hg]; simp only; rw [if_pos h4, hab]; rfl)
          have hi1 := Hi.out
          obtain ⟨ad4, g', rfl, hg', -, e1, -⟩ := Gone.at hr4b.out i hi1
          have hgg : g' = g := by rw [hgx] at hg'; exact (Option.some.inj hg').symm
          subst hgg
          clear hg' hi1
          have s0 : wr.cell? ⟨B7, 0, none⟩ = some (.int .i64 b.Base) := by rw [hB7]; exact t0
          have s2 : wr.cell? ⟨B7, 2, none⟩ = some (.int .i64 b.Producer) := by rw [hB7]; exact t2
          clear t0 t2 t5 t6 Tb p0 p1 p2 p3 p4 p5
          rw [← hB7]
          have HB7 := Lib.hid hB7
          clear hB7
          have k1 := hK2b.out.below (ag_drew1 wr #[.int .i64 b.Producer, .int .i64 g'.First, .int .i64 b.Base])
          have k2 := hK2b.out.below (ag_drew2 wr #[.int .i64 b.Producer, .int .i64 g'.First, .int .i64 b.Base])
          have x1 : Row kGone _ _ [⟨b.Producer, g'.First, b.Base⟩] := Row_one (box_drew1 wr #[.int .i64 b.Producer, .int .i64 g'.First, .int .i64 b.Base])
          have x2 : Row kGone _ _ [⟨b.Producer, g'.First, b.Base⟩] := Row_one (box_drew2 wr #[.int .i64 b.Producer, .int .i64 g'.First, .int .i64 b.Base])
          have y1 := Lib.hid (ag_drew1 wr #[.int .i64 b.Producer, .int .i64 g'.First, .int .i64 b.Base])
          have y2 := Lib.hid (ag_drew2 wr #[.int .i64 b.Producer, .int .i64 g'.First, .int .i64 b.Base])
          have u1 := hbs.out
          have f0 : ∀ k, u5.ownBlock = some k → k < wr.heap.size := hK2b.out.lt
          have f1 := Lib.hid f0
          clear f0
          have nB : some B7 ≠ u5.ownBlock := fun e => by have := hu5.out _ e.symm; rw [← HB7.out] at this; omega
          have nA : some (ad4.add (i * 3)).block ≠ u5.ownBlock := fun e => hap (ad4.add (i * 3)).block (by rw [block_add]; rfl) e.symm
          go_region_held_law (fun w' => w'.cell? ⟨B7, 2, none⟩ = some (.int .i64 b.Producer) ∧ w'.cell? ⟨(ad4.add (i * 3)).block, (ad4.add (i * 3)).off + 1, none⟩ = some (.int .i64 g'.First) ∧ w'.cell? ⟨B7, 0, none⟩ = some (.int .i64 b.Base)) (first | exact S3 | exact ⟨s2, e1, s0⟩ | exact ⟨later y1.out s2, later y1.out e1, later y1.out s0⟩ | exact ⟨later y2.out s2, later y2.out e1, later y2.out s0⟩)
            ((go_loud (refine step_gone rfl _ _ _ rfl rfl (xs := gs) (ys := [⟨b.Producer, g'.First, b.Base⟩]) rfl (by first | exact k1 | exact k2) 1 _ rfl rfl (by first | exact x1 | exact x2) (by simp; omega) (by first | exact Nat.le_trans u1 y1.out.size | exact Nat.le_trans u1 y2.out.size) ?_); intro v' wc hKc hgrc hatc; have S3 : wc.cell? ⟨B7, 2, none⟩ = some (.int .i64 b.Producer) ∧ wc.cell? ⟨(ad4.add (i * 3)).block, (ad4.add (i * 3)).off + 1, none⟩ = some (.int .i64 g'.First) ∧ wc.cell? ⟨B7, 0, none⟩ = some (.int .i64 b.Base) := ⟨hgrc.cell (by first | exact later y1.out s2 | exact later y2.out s2) nB, hgrc.cell (by first | exact later y1.out e1 | exact later y2.out e1) nA, hgrc.cell (by first | exact later y1.out s0 | exact later y2.out s0) nB⟩; have GS := Lib.hid (gone_step (by first | exact y1.out | exact y2.out) hbb.out hK1b.out hK2b.out hap hgrc hatc u1)))
          clear S3 s0 s2 e1 nA nB k1 k2 x1 x2 y1 y2 hgrc hatc
          obtain ⟨hK1c', hapc, hbbc'⟩ := GS.out
          have hbbc := Lib.hid hbbc'
          have hK1c := Lib.hid hK1c'
          have hK2c := Lib.hid hKc
          have hbsc := Lib.hid (hbbc'.size)
          obtain ⟨A9, c9, e9, _, hr4c'⟩ := hK1c'.flatRead gone_flat
          injection e9 with e9 _ _
          subst e9
          have hr4c := Lib.hid hr4c'
          clear hr4c' hK1c' hbbc' GS hKc hap hK1b hK2b hr4b
          go_wp2
          have hbs1 := hbsc.out
          have hi1 := Hi.out
          have hrd : ∀ (W : World) (q : Addr), Kp wc W → (i + 1 < c4 → q = ad4.add ((i + 1) * 3)) → Row kGone W (some q) (os.drop (i + 1)) := fun W q hk hq => by
            by_cases hd : i + 1 < c4
            · rw [hq hd]; exact Row_kp (Row.drop hr4c.out (i + 1)) hk
            · exact fun hp => absurd hp (by rw [List.length_drop]; omega)
          have Hrd := Lib.hid hrd
          clear hrd
          have b1 := al_drew1 wc
          have b2 := al_drew2 wc
          have k1 : Kp wc (wc.drew.alloc (.cells #[] 78)) := fun p u h => later b1 h
          have k2 : Kp wc (wc.alloc (.cells #[] 78)).drew := fun p u h => later b2 h
          have q1 : KG w (wc.drew.alloc (.cells #[] 78)) [] (.slice (some ⟨wc.heap.size, 0, none⟩) 0 0) := (lit_gone (w0 := w) wc).mono hbs1
          have q2 : KG w (wc.alloc (.cells #[] 78)).drew [] (.slice (some ⟨wc.heap.size, 0, none⟩) 0 0) := (lit_gone (w0 := w) wc).mono hbs1
          have z1 : wc.heap.size + 1 = (wc.drew.alloc (.cells #[] 78)).heap.size := (size_al wc (.cells #[] 78)).symm
          have z2 : wc.heap.size + 1 = (wc.alloc (.cells #[] 78)).drew.heap.size := (size_al wc (.cells #[] 78)).symm
          have P1 := Lib.hid (Stp.start b1 hbbc.out hK2c.out hbs1)
          have P2 := Lib.hid (Stp.start b2 hbbc.out hK2c.out hbs1)
          clear b1 b2
          have hc40 : ¬ c4 = 0 := by omega
          rcases (show (i + 1 < c4 ∧ ¬ c4 = i + 1) ∨ (i + 1 = c4 ∧ os.length = i + 1) by omega) with ⟨hd, hd0⟩ | ⟨rfl, hd⟩
          case' inl => have HrdA := Lib.hid (fun (W : World) (hk : Kp wc W) => Hrd.out W (ad4.add ((i + 1) * 3)) hk (fun _ => rfl))
          case' inr => have HrdA := Lib.hid (fun (W : World) (hk : Kp wc W) => Hrd.out W ad4 hk (fun h => absurd h (Nat.lt_irrefl _)))
          all_goals (have Hd := Lib.hid hd; clear hd Hrd)
          all_goals have hi2 : (i : Int) + 1 ≤ (os.length : Int) := by omega
          all_goals have hi3 : 0 ≤ (i : Int) + 1 := by omega
          all_goals have hi4 : IntKind.i64.wrap ((i : Int) + 1) = (i : Int) + 1 := IntWalk.i64_in _ (by omega)
          all_goals have hi5 : ((i : Int) + 1).toNat = i + 1 := by omega
          all_goals go_region_held_law (fun w' => True) (trivial)
            (first
              | (refine step_gone rfl _ _ _ rfl rfl (xs := []) (ys := os.take i) (v := .slice (some ⟨wc.heap.size, 0, none⟩) 0 0) rfl (by first | exact q1 | exact q2) i _ rfl (by rw [List.length_take] <;> omega) (Row_kp (hr4c.out.take i) (by first | exact k1 | exact k2)) (by rw [List.length_take, List.length_nil] <;> omega) (by first | (rw [← z1] <;> omega) | (rw [← z2] <;> omega)) ?_; intro va wa hKa hgra hata; have PA := Lib.hid (Stp.app (by first | exact P1.out | exact P2.out) hgra hata))
              | (refine step_gone rfl _ _ _ rfl rfl (xs := [] ++ os.take i) (ys := os.drop (i + 1)) (v := va) rfl hKa (os.length - (i + 1)) _ rfl (by first | (rw [List.length_drop]; done) | (rw [List.length_drop]; have := Hd.out; omega)) (HrdA.out _ (Kp.own (by first | exact k1 | exact k2) (fun k hk => by cases hk; exact Nat.le_refl _) hgra)) (by rw [List.nil_append, List.length_take, List.length_drop] <;> omega) (by have := hgra.size; first | (rw [← z1] at this <;> omega) | (rw [← z2] at this <;> omega)) ?_; intro vb wb hKb hgrb hatb; have PB := Lib.hid (PA.out.app hgrb hatb))
              | (refine step_gone rfl _ _ _ rfl rfl (xs := [] ++ os.take i) (ys := os.drop (i + 1)) (v := va) rfl hKa 0 _ rfl (by first | (rw [List.length_drop]; done) | (rw [List.length_drop]; have := Hd.out; omega)) (HrdA.out _ (Kp.own (by first | exact k1 | exact k2) (fun k hk => by cases hk; exact Nat.le_refl _) hgra)) (by rw [List.nil_append, List.length_take, List.length_drop] <;> omega) (by have := hgra.size; first | (rw [← z1] at this <;> omega) | (rw [← z2] at this <;> omega)) ?_; intro vb wb hKb hgrb hatb; have PB := Lib.hid (PA.out.app hgrb hatb)))
          all_goals clear hKa hgra hata hgrb hatb k1 k2 q1 q2 z1 z2
          all_goals go_wp2
          all_goals go_roundg (L.length - k - 1)
          all_goals first
            | omega
            | exact ⟨k + 1, vb, _, by omega, by go_num, rfl, rfl, by rw [HX2.out, hdel]; exact hKb, by rw [HX2.out]; exact PB.out.1, PB.out.apart, PB.out.2.1⟩
        · have hab : isAb b = false := by rw [HAb.out]; grind
          have HX2 := Lib.hid (show txF (L.take (k + 1)) = (opDel os b.Producer, gs) by rw [HX.out]; unfold txB; rw [hg]; simp only; rw [if_pos h4, hab]; rfl)
          have hbs1 := hbs.out
          have hi1 := Hi.out
          obtain ⟨ad4, rfl, _⟩ := hr4b.out (by omega)
          have hrd : ∀ (W : World) (q : Addr), Kp wr W → (i + 1 < c4 → q = ad4.add ((i + 1) * 3)) → Row kGone W (some q) (os.drop (i + 1)) := fun W q hk hq => by
            by_cases hd : i + 1 < c4
            · rw [hq hd]; exact Row_kp (Row.drop hr4b.out (i + 1)) hk
            · exact fun hp => absurd hp (by rw [List.length_drop]; omega)
          have Hrd := Lib.hid hrd
          clear hrd
          have b1 := al_drew1 wr
          have b2 := al_drew2 wr
          have k1 : Kp wr (wr.drew.alloc (.cells #[] 78)) := fun p u h => later b1 h
          have k2 : Kp wr (wr.alloc (.cells #[] 78)).drew := fun p u h => later b2 h
          have q1 : KG w (wr.drew.alloc (.cells #[] 78)) [] (.slice (some ⟨wr.heap.size, 0, none⟩) 0 0) := (lit_gone (w0 := w) wr).mono hbs1
          have q2 : KG w (wr.alloc (.cells #[] 78)).drew [] (.slice (some ⟨wr.heap.size, 0, none⟩) 0 0) := (lit_gone (w0 := w) wr).mono hbs1
          have z1 : wr.heap.size + 1 = (wr.drew.alloc (.cells #[] 78)).heap.size := (size_al wr (.cells #[] 78)).symm
          have z2 : wr.heap.size + 1 = (wr.alloc (.cells #[] 78)).drew.heap.size := (size_al wr (.cells #[] 78)).symm
          have P1 := Lib.hid (Stp.start b1 hbb.out hK2b.out hbs1)
          have P2 := Lib.hid (Stp.start b2 hbb.out hK2b.out hbs1)
          clear b1 b2
          have hc40 : ¬ c4 = 0 := by omega
          rcases (show (i + 1 < c4 ∧ ¬ c4 = i + 1) ∨ (i + 1 = c4 ∧ os.length = i + 1) by omega) with ⟨hd, hd0⟩ | ⟨rfl, hd⟩
          case' inl => have HrdA := Lib.hid (fun (W : World) (hk : Kp wr W) => Hrd.out W (ad4.add ((i + 1) * 3)) hk (fun _ => rfl))
          case' inr => have HrdA := Lib.hid (fun (W : World) (hk : Kp wr W) => Hrd.out W ad4 hk (fun h => absurd h (Nat.lt_irrefl _)))
          all_goals (have Hd := Lib.hid hd; clear hd Hrd)
          all_goals have hi2 : (i : Int) + 1 ≤ (os.length : Int) := by omega
          all_goals have hi3 : 0 ≤ (i : Int) + 1 := by omega
          all_goals have hi4 : IntKind.i64.wrap ((i : Int) + 1) = (i : Int) + 1 := IntWalk.i64_in _ (by omega)
          all_goals have hi5 : ((i : Int) + 1).toNat = i + 1 := by omega
          all_goals go_region_held_law (fun w' => True) (trivial)
            (first
              | (refine step_gone rfl _ _ _ rfl rfl (xs := []) (ys := os.take i) (v := .slice (some ⟨wr.heap.size, 0, none⟩) 0 0) rfl (by first | exact q1 | exact q2) i _ rfl (by rw [List.length_take] <;> omega) (Row_kp (hr4b.out.take i) (by first | exact k1 | exact k2)) (by rw [List.length_take, List.length_nil] <;> omega) (by first | (rw [← z1] <;> omega) | (rw [← z2] <;> omega)) ?_; intro va wa hKa hgra hata; have PA := Lib.hid (Stp.app (by first | exact P1.out | exact P2.out) hgra hata))
              | (refine step_gone rfl _ _ _ rfl rfl (xs := [] ++ os.take i) (ys := os.drop (i + 1)) (v := va) rfl hKa (os.length - (i + 1)) _ rfl (by first | (rw [List.length_drop]; done) | (rw [List.length_drop]; have := Hd.out; omega)) (HrdA.out _ (Kp.own (by first | exact k1 | exact k2) (fun k hk => by cases hk; exact Nat.le_refl _) hgra)) (by rw [List.nil_append, List.length_take, List.length_drop] <;> omega) (by have := hgra.size; first | (rw [← z1] at this <;> omega) | (rw [← z2] at this <;> omega)) ?_; intro vb wb hKb hgrb hatb; have PB := Lib.hid (PA.out.app hgrb hatb))
              | (refine step_gone rfl _ _ _ rfl rfl (xs := [] ++ os.take i) (ys := os.drop (i + 1)) (v := va) rfl hKa 0 _ rfl (by first | (rw [List.length_drop]; done) | (rw [List.length_drop]; have := Hd.out; omega)) (HrdA.out _ (Kp.own (by first | exact k1 | exact k2) (fun k hk => by cases hk; exact Nat.le_refl _) hgra)) (by rw [List.nil_append, List.length_take, List.length_drop] <;> omega) (by have := hgra.size; first | (rw [← z1] at this <;> omega) | (rw [← z2] at this <;> omega)) ?_; intro vb wb hKb hgrb hatb; have PB := Lib.hid (PA.out.app hgrb hatb)))
          all_goals clear hKa hgra hata hgrb hatb k1 k2 q1 q2 z1 z2
          all_goals go_wp2
          all_goals go_roundg (L.length - k - 1)
          all_goals first
            | omega
            | exact ⟨k + 1, vb, _, by omega, by go_num, rfl, rfl, by rw [HX2.out, hdel]; exact hKb, by rw [HX2.out]; exact PB.out.1, PB.out.apart, PB.out.2.1⟩
end Go.Proofs.Ytipemgjgimpmbaa.H
