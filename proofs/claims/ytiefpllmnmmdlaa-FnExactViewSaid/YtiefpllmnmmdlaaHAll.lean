/-
The batches of a log, one behind the other: the program's batches, the reference's l3All: a row of the call's own whose elements lead to what the log holds. Conditions: each contract's own premises.
-/
import Derived.Test.YtiefpllmnmmdlaaHBatch2
import Derived.Test.YtiefpllmnmmdlaaHLogDef
import Derived.Laws.AppendOwnNone
namespace Go.Proofs.Ytiefpllmnmmdlaa.H
open Go.RowKit
set_option linter.unusedVariables false
set_option linter.unusedSimpArgs false
set_option maxRecDepth 100000
/-- A row of the call's own; what its elements lead to lies in the world w0. -/
def KO {α : Type} (d : Ki α) (e : Nat) (w0 w : World) (base : Nat) (xs : List α) (v : Value) : Prop :=
  ∃ inner : List Value, w.ownsRow base e d.sz v xs.length inner ∧ (∀ u ∈ inner, u.oneCell' = true) ∧ ∀ i x, xs[i]? = some x → d.K w0 x ((inner.drop (i * d.sz)).take d.sz)
section
variable {α : Type} {d : Ki α} {e : Nat} {w0 w w1 : World} {base : Nat} {xs ys : List α} {v : Value}
theorem KO.nil : KO d e w0 w base [] (.slice none 0 0) := ⟨[], World.ownsRow_nil _ _ _ _, by simp, by simp⟩
theorem KO.read (h : KO d e w0 w base xs v) (hb : Below w0.heap.size w0 w) : ∃ A c, v = .slice A xs.length c ∧ xs.length ≤ c ∧ Row d w A xs := by
  obtain ⟨inner, ho, _, hx⟩ := h
  obtain ⟨A, c, rfl, hc, _, hA⟩ := own_read ho
  refine ⟨A, c, rfl, hc, fun hp => ?_⟩
  obtain ⟨a, rfl, ha⟩ := hA hp
  exact ⟨a, rfl, fun i x hi => ⟨_, d.below hb (hx i x hi), fun j u hj => ha _ u (chunk_get hj)⟩⟩
theorem KO.grown (h : KO d e w0 w base xs v) (hm : ∀ k, v.ownBlock = some k → w1.heap[k]? = w.heap[k]?) : KO d e w0 w1 base xs v := by
  obtain ⟨inner, ho, h1, hx⟩ := h
  exact ⟨inner, own_move ho hm, h1, hx⟩
theorem KO.below (h : KO d e w0 w base xs v) (hb : Below w.heap.size w w1) : KO d e w0 w1 base xs v := h.grown (fun k hk => by
  obtain ⟨inner, ho, _⟩ := h
  exact hb.block k (ho.lt k hk).2)
theorem KO.append {v' : Value} {inner news : List Value} (h : w1.ownsRow base e d.sz v' (xs.length + ys.length) (inner ++ news)) (hl : inner.length = xs.length * d.sz) (hn : news.length = ys.length * d.sz)
    (ho1 : ∀ u ∈ inner, u.oneCell' = true) (ho2 : ∀ u ∈ news, u.oneCell' = true) (hx : ∀ i x, xs[i]? = some x → d.K w0 x ((inner.drop (i * d.sz)).take d.sz)) (hy : ∀ i x, ys[i]? = some x → d.K w0 x ((news.drop (i * d.sz)).take d.sz)) : KO d e w0 w1 base (xs ++ ys) v' := by
  refine ⟨inner ++ news, by rw [List.length_append]; exact h, fun u hu => (List.mem_append.1 hu).elim (ho1 u) (ho2 u), fun i x hi => ?_⟩
  by_cases hlt : i < xs.length
  · rw [List.getElem?_append_left hlt] at hi
    have : (i + 1) * d.sz ≤ xs.length * d.sz := Nat.mul_le_mul_right _ hlt
    rw [Nat.add_mul, Nat.one_mul] at this
    rw [List.drop_append_of_le_length (by omega), List.take_append_of_le_length (by simp; omega)]
    exact hx i x hi
  · rw [List.getElem?_append_right (by omega)] at hi
    have h2 := hy _ x hi
    have he : i * d.sz = inner.length + (i - xs.length) * d.sz := by
      rw [hl, ← Nat.add_mul]; congr 1; omega
    rw [he, List.drop_append, List.drop_eq_nil_of_le (by omega), List.nil_append, show inner.length + (i - xs.length) * d.sz - inner.length = (i - xs.length) * d.sz by omega]
    exact h2
/-- The cells of elements that are read. -/
theorem Row_news {A : Option Addr} (h : Row d w A xs) (hp : 0 < xs.length) : ∃ (ad : Addr) (news : List Value), A = some ad ∧ news.length = xs.length * d.sz ∧ (∀ j u, news[j]? = some u → w.cell? (ad.add j) = some u) ∧ (∀ u ∈ news, u.oneCell' = true) ∧ ∀ i x, xs[i]? = some x → d.K w x ((news.drop (i * d.sz)).take d.sz) := by
  obtain ⟨ad, rfl, hx⟩ := h hp
  have key : ∀ n, n ≤ xs.length → ∃ news : List Value, news.length = n * d.sz ∧ (∀ j u, news[j]? = some u → w.cell? (ad.add j) = some u) ∧ (∀ u ∈ news, u.oneCell' = true) ∧ ∀ i x, i < n → xs[i]? = some x → d.K w x ((news.drop (i * d.sz)).take d.sz) := by
    intro n
    induction n with
    | zero => intro _; exact ⟨[], by simp, by simp, by simp, fun i x h => absurd h (by omega)⟩
    | succ n ih =>
      intro hn
      obtain ⟨news, h1, h2, h3, h4⟩ := ih (by omega)
      obtain ⟨cs, hk, hc⟩ := hx n _ (List.getElem?_eq_getElem (by omega))
      have hl := d.len hk
      refine ⟨news ++ cs, by rw [List.length_append, h1, hl, Nat.add_mul, Nat.one_mul], fun j u hj => ?_, fun u hu => (List.mem_append.1 hu).elim (h3 u) (d.one hk u), fun i x hi hxi => ?_⟩
      · by_cases hlt : j < news.length
        · rw [List.getElem?_append_left hlt] at hj; exact h2 j u hj
        · rw [List.getElem?_append_right (by omega)] at hj
          have := hc _ u hj
          rwa [← h1, show news.length + (j - news.length) = j by omega] at this
      · by_cases hlt : i < n
        · have : (i + 1) * d.sz ≤ n * d.sz := Nat.mul_le_mul_right _ hlt
          rw [Nat.add_mul, Nat.one_mul] at this
          rw [List.drop_append_of_le_length (by omega), List.take_append_of_le_length (by simp; omega)]
          exact h4 i x hlt hxi
        · obtain rfl : i = n := by omega
          rw [List.getElem?_eq_getElem (by omega)] at hxi
          cases hxi
          rw [← h1, List.drop_append, List.drop_eq_nil_of_le (Nat.le_refl _), List.nil_append, Nat.sub_self, List.drop_zero, List.take_of_length_le (by omega)]
          exact hk
  obtain ⟨news, h1, h2, h3, h4⟩ := key xs.length (Nat.le_refl _)
  exact ⟨ad, news, rfl, h1, h2, h3, fun i x hi => h4 i x (List.getElem?_eq_some_iff.1 hi).1 hi⟩
end
theorem run_append_nilc {P : Program} {w : World} (base : Nat) (t ty e : TypeId) (i : TypeInfo) (size c : Nat) (ht : P.underlying t = some (.slice e)) (hi : P.info? e = some i)
    (v : Value) (n : Nat) (xs : List Value) (hown : w.ownsRow base e size v n xs) : (Builtin.append_ #[t, t] ty #[v, .slice none 0 c]).run P w = .ok v w := by
  rcases hown.2 with ⟨rfl, rfl⟩ | ⟨g, cap, cur, rfl, _, _, hnc, _⟩
  · simp [Builtin.append_, run_underlying ht, sizeOf, typeInfo, hi, Builtin.lenOf, Builtin.firstCells]
  · simp [Builtin.append_, run_underlying ht, sizeOf, typeInfo, hi, Builtin.lenOf, Builtin.firstCells, hnc, storeCells]
/-- 'append(s, x...)', s the call's own, x a slice that is read: the elements are s's and x's. -/
theorem app_KO {α : Type} {d : Ki α} {P : Program} {w w0 : World} {ops : Array Oper} {rest : List Oper} {o : Oper} {a : Act} {Q : Exit → Act → World → Prop} (hgd : o.guard = none) (s x : Operand) (t : TypeId)
    (ho : o.op = .call { callee := .builtin .append, args := #[s, x], argTypes := #[t, t] })
    (base : Nat) (e : TypeId) (i : TypeInfo) (z : Value) (bytes : Nat) (ht : P.underlying t = some (.slice e)) (hi : P.info? e = some i) (hz : i.zero = some z)
    (hsize : i.size = d.sz) (hby : i.bytes = bytes) (hzs : z.cells.size = d.sz) (hsz : 0 < d.sz)
    {xs ys : List α} {v : Value} (hs : a.eval s = v) (hK : KO d e w0 w base xs v) (A : Option Addr) (c : Nat) (hx : a.eval x = .slice A ys.length c) (hr : Row d w0 A ys) (hb : Below w0.heap.size w0 w)
    (h63 : xs.length + ys.length ≤ maxLen) (hbytes : (xs.length + ys.length) * bytes ≤ 140737488355328) (hbase : base ≤ w.heap.size)
    (h : ∀ v' w', KO d e w0 w' base (xs ++ ys) v' → w.grownBy w' v.ownBlock → wpList P ops Q rest (a.put o.dst v') w') : wpList P ops Q (o :: rest) a w := by
  have hK' := hK
  obtain ⟨inner, hown, ho1, hin⟩ := hK
  cases A with
  | none =>
    have h0 : ys.length = 0 := by
      rcases Nat.eq_zero_or_pos ys.length with h | h
      · exact h
      · obtain ⟨_, h, _⟩ := hr h; cases h
    have hy : ys = [] := List.length_eq_zero_iff.1 h0
    subst hy
    refine wpList_plain hgd fun K hK => ?_
    have hrun := run_append_nilc (P := P) (w := w) base t o.type e i d.sz c ht hi v _ _ hown
    unfold Oper.wp
    simp only [List.length_nil] at hx
    simp [execOp, ho, resolve, invoke, builtin, hs, hx, hrun, Result.andThen]
    exact hK _ _ (h v w (by rw [List.append_nil]; exact hK') (World.grownBy.refl _ _))
  | some ad =>
    rcases Nat.eq_zero_or_pos ys.length with h0 | h0
    · have hy : ys = [] := List.length_eq_zero_iff.1 h0
      subst hy
      refine wpList_append_own _ hgd s x t ho base e i z d.sz bytes ht hi hz hsize hby hzs hsz v _ inner hs hown ad 0 c [] hx (by simp) (by simp) (by simp) h63 hbytes hbase fun v' w' hown' hg _ => h v' w' ?_ hg
      exact KO.append (ys := []) hown' hown.1 (by simp) ho1 (by simp) hin (by simp)
    · obtain ⟨ad', news, he, h1, h2, h3, h4⟩ := Row_news hr h0
      cases he
      refine wpList_append_own _ hgd s x t ho base e i z d.sz bytes ht hi hz hsize hby hzs hsz v _ inner hs hown ad ys.length c news hx h1 (fun j u hj => later hb (h2 j u hj)) h3 h63 hbytes hbase fun v' w' hown' hg _ => h v' w' ?_ hg
      exact KO.append hown' hown.1 h1 ho1 h3 hin h4
theorem KO.base {α : Type} {d : Ki α} {e : Nat} {w0 w : World} {base : Nat} {xs : List α} {v : Value} (h : KO d e w0 w base xs v) : ∀ k, v.ownBlock = some k → base ≤ k := fun k hk => by
  obtain ⟨inner, ho, _⟩ := h
  exact (ho.lt k hk).1
def allB (x : Log) : List Batch := x.Segments.flatMap (·.Batches)
theorem flatMap_take {α β : Type} {l : List α} {f : α → List β} {k : Nat} {s : α} (h : l[k]? = some s) : (l.take (k + 1)).flatMap f = (l.take k).flatMap f ++ f s := by
  rw [take_snoc h, List.flatMap_append]; simp
theorem flatMap_le {α β : Type} (l : List α) (f : α → List β) (k : Nat) : ((l.take k).flatMap f).length ≤ (l.flatMap f).length := by
  conv => rhs; rw [← List.take_append_drop k l, List.flatMap_append, List.length_append]
  omega
theorem info_b : (Try.prog.info? 48).map (fun i => (i.zero, i.size, i.bytes)) = some (some (.agg #[.int .i64 0, .int .i64 0, .int .i64 0, .int .i64 0, .int .i64 0, .int .i64 0, .slice none 0 0]), 7, 72) := by kernel_rfl
theorem app_batches {w w0 : World} {ops : Array Oper} {rest : List Oper} {o : Oper} {a : Act} {Q : Exit → Act → World → Prop} (hgd : o.guard = none) (s x : Operand) (t : TypeId)
    (ho : o.op = .call { callee := .builtin .append, args := #[s, x], argTypes := #[t, t] }) (ht : t = 42) (base : Nat)
    {xs ys : List Batch} {v : Value} (hs : a.eval s = v) (A : Option Addr) (c : Nat) (hx : a.eval x = .slice A ys.length c) (hK : KO kBatch 48 w0 w base xs v) (hr : Row kBatch w0 A ys) (hb : Below w0.heap.size w0 w)
    (hn : xs.length + ys.length ≤ 1000000) (hbase : base ≤ w.heap.size)
    (h : ∀ v' w', KO kBatch 48 w0 w' base (xs ++ ys) v' → w.grownBy w' v.ownBlock → wpList Try.prog ops Q rest (a.put o.dst v') w') : wpList Try.prog ops Q (o :: rest) a w := by
  subst ht
  obtain ⟨i0, hi, hz0, hz1, hz2⟩ := info_parts info_b
  exact app_KO (d := kBatch) hgd s x _ ho base 48 i0 _ 72 Try.underlying42 hi hz0 hz1 hz2 rfl (by decide) hs hK A c hx hr hb (by simp only [maxLen]; omega) (by omega) hbase h
/-- The answer: a slice that reads as xs. -/
def GivesK {α : Type} (d : Ki α) (xs : List α) (w : World) (en : Ending) (w' : World) : Prop := ∃ A c, en = .returned (.slice A xs.length c) ∧ xs.length ≤ c ∧ Row d w' A xs ∧ Below w.heap.size w w'
set_option maxHeartbeats 4000000 in
theorem batches_c (w : World) (x : Log) {A3 : Option Addr} {c3 : Nat} (l3 : x.Segments.length ≤ c3) (g3 : Row kSegment w A3 x.Segments) (hn : x.Segments.length ≤ 1048576) (hb0 : (allB x).length ≤ 1000000) :
    Calls Try.prog 25 #[.agg #[.int .i64 x.Start, .int .i64 x.Next, .int .i64 x.Roll, .slice A3 x.Segments.length c3]] w (GivesK kBatch (allB x) w) := by
  have HB0 := Lib.hid hb0
  clear hb0
  have hu := Try.underlying45
  have hu2 := Try.underlying26
  have hu3 := Try.underlying48
  have hu4 := Try.underlying42
  obtain ⟨i0, hi, hz0, hz1, hz2⟩ := info_parts info_b
  go_enter Try.func25, Try.ntmps25
  go_wp2
  go_loopg [3, 9] x.Segments.length (fun g v3 v9 wr => ∃ (k : Nat) (v : Value), k + g = x.Segments.length ∧ v9 = .int .i64 k ∧ v3 = v ∧ KO kBatch 48 w wr w.heap.size ((x.Segments.take k).flatMap (·.Batches)) v ∧ Below w.heap.size w wr)
  case atStart => exact ⟨0, _, by omega, rfl, rfl, KO.nil, below_al _ _⟩
  case round =>
    obtain ⟨k, v, hk, rfl, rfl, hK, hb⟩ := hrel
    by_cases hlt : k < x.Segments.length
    case neg =>
      rw [List.take_of_length_le (by omega)] at hK
      obtain ⟨A, c, rfl, hc, hr⟩ := hK.read hb
      go_wp2
      go_ret
      exact ⟨A, c, rfl, hc, hr, hb⟩
    obtain ⟨ad, s, A1, c1, rfl, hx, p0', p1', l1, g1⟩ := Segment.at g3 k hlt
    have p0 := later hb p0'
    have p1 := later hb p1'
    clear p0' p1'
    have HF := Lib.hid (flatMap_take (f := (·.Batches)) hx)
    have HLE : Hid (((x.Segments.take k).flatMap (·.Batches)).length + s.Batches.length ≤ 1000000) := Lib.hid (by
      have h1 := flatMap_le x.Segments (·.Batches) (k + 1)
      rw [HF.out, List.length_append] at h1
      have := HB0.out
      unfold allB at this
      omega)
    have hle := HLE.out
    clear hx
    have hob := hK.below (below_al wr (.cells #[.int .i64 s.Base, .slice A1 s.Batches.length c1] 45))
    have Hb := below_tr hb (below_al wr (.cells #[.int .i64 s.Base, .slice A1 s.Batches.length c1] 45))
    have hbs := hb.size
    have C3 : Hid (w.heap.size ≤ (wr.alloc (.cells #[.int .i64 s.Base, .slice A1 s.Batches.length c1] 45)).heap.size) := Lib.hid Hb.size
    clear hle
    go_upto_region 5 with fail
    go_wp2_with (at_builtin; refine app_batches rfl _ _ _ rfl rfl w.heap.size rfl A1 c1 rfl hob g1 Hb HLE.out C3.out ?_; intro v' w' hK2 hgr2)
    have hb2 := Hb.grown hgr2 C3.out (fun k hk => hob.base k hk)
    go_roundg (gk - 1)
    case rel => exact ⟨k + 1, v', by omega, by go_num, rfl, by rw [HF.out]; exact hK2, hb2⟩
    case measure => omega
end Go.Proofs.Ytiefpllmnmmdlaa.H
