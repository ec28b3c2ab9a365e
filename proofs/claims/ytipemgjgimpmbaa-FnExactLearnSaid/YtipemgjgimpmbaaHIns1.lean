/-
copy at elements of several cells; one element put in among a row's. No program in sight. Conditions: none.
-/
import Derived.Test.YtipemgjgimpmbaaHSeen2
import Derived.Laws.CopyRow
import Derived.Laws.IdiomCopy
import Derived.Lib.AppendZerosOnto
import Derived.Lib.AppendZeros
import Derived.Lib.Overlaps
import Derived.Laws.Externs
namespace Go.Proofs.Ytipemgjgimpmbaa.H
open Go.RowKit
set_option linter.unusedVariables false
set_option linter.unusedSimpArgs false
theorem run_copy_rowK {P : Program} (w : World) (dT sT ty elem : TypeId) (k g o dLen dCap : Nat) (a : Addr) (sLen sCap : Nat) (cur : Array Value) (t : TypeId) (cs : List Value)
    (hu : P.underlying dT = some (.slice elem)) (hs : (P.info? elem).map (·.size) = some k)
    (hg : w.heap[g]? = some (.cells cur t (0, 0))) (hn : cs.length = Nat.min sLen dLen * k)
    (hsrc : ∀ j v, cs[j]? = some v → w.cell? (a.add j) = some v) (hfit : o + cs.length ≤ cur.size) (h1 : ∀ v ∈ cs, v.oneCell' = true) :
    (Builtin.copy_ #[dT, sT] ty #[.slice (some ⟨g, o, none⟩) dLen dCap, .slice (some a) sLen sCap]).run P w =
      .ok (goInt (Nat.min sLen dLen)) (w.setRow g (cur.toList.take o ++ cs ++ cur.toList.drop (o + cs.length)).toArray) := by
  have hl := run_loadCells_list (P := P) w a cs hsrc
  have hst := run_storeCells_at P g o t cs 0 cur w hg (by simpa using hfit) h1
  cases hq : P.info? elem with
  | none => simp [hq] at hs
  | some i =>
    have hi : i.size = k := by simpa [hq] using hs
    simp [Builtin.copy_, run_underlying hu, Builtin.lenOf, Builtin.firstCells, sizeOf, typeInfo, hq, hi, ← hn, hl, hst]
theorem wpList_copyR {P : Program} (w : World) {ops : Array Oper} {rest : List Oper} {o : Oper} {a : Act} {Q : Exit → Act → World → Prop} (hgd : o.guard = none) (d s : Operand) (t t' : TypeId)
    (ho : o.op = .call { callee := .builtin .copy, args := #[d, s], argTypes := #[t, t'] }) (v u : Value) (hd : a.eval d = v) (hs : a.eval s = u) {v' : Value} {w' : World}
    (hr : (Builtin.copy_ #[t, t'] o.type #[v, u]).run P w = .ok v' w') (h : wpList P ops Q rest (a.put o.dst v') w') : wpList P ops Q (o :: rest) a w := by
  refine wpList_plain hgd fun K hK => ?_
  unfold Oper.wp execOp
  simp only [ho, resolve, invoke, builtin, Sem.run_bind, Sem.run_pure, Result.andThen_ok, List.map_toArray, List.map_cons, List.map_nil, hd, hs, hr]
  exact hK _ _ h
theorem step_copyR {P : Program} {ops : Array Oper} {o : Oper} {a : Act} {w : World} {K : Act → World → Prop} {Q : Exit → Act → World → Prop} {E : Prop}
    (hg : o.guard = none) (d x : Operand) (dT sT : TypeId) (hop : o.op = Op.call { callee := Callee.builtin Builtin.copy, args := #[d, x], argTypes := #[dT, sT] })
    (v u : Value) (hd : a.eval d = v) (hx : a.eval x = u) {v' : Value} {w' : World} (hr : (Builtin.copy_ #[dT, sT] o.type #[v, u]).run P w = .ok v' w') (hK : K (a.put o.dst v') w') :
    if Region.wanted o (yielded ops a.tmps) = true then Oper.wp P o a w K Q else E := by
  have hw : Region.wanted o (yielded ops a.tmps) = true := by simp [Region.wanted, hg]
  rw [if_pos hw]
  unfold Oper.wp
  simp [execOp, hop, resolve, invoke, builtin, hd, hx, hr, Result.andThen]
  exact hK
theorem grownBy_setRow {w : World} {g : Nat} (cs : Array Value) : w.grownBy (w.setRow g cs) (some g) :=
  ⟨rfl, rfl, rfl, by simp [World.setRow], fun k _ hk => setRow_other w g k cs (fun e => hk (by rw [e]))⟩
theorem grownBy_tr {a b c : World} {r : Option Nat} (h : a.grownBy b r) (k : b.grownBy c r) : a.grownBy c r := h.trans k
/-- A row with room, one element put in at place i. -/
theorem ins_row {w : World} {e : TypeId} {sz g n cap i : Nat} {inner news cur : List Value} (hg : w.heap[g]? = some (.cells cur.toArray e (0, 0))) (hl : inner.length = n * sz) (hc : cur.length = cap * sz) (ht : cur.take (n * sz) = inner) (hn : news.length = sz) (hi : i ≤ n) (hr : n + 1 ≤ cap) (hm : cap ≤ maxLen) :
    (w.setRow g (inner.take (i * sz) ++ (news ++ (inner.drop (i * sz) ++ cur.drop ((n + 1) * sz)))).toArray).ownsRow 0 e sz (.slice (some ⟨g, 0, none⟩) (n + 1) cap) (n + 1) (inner.take (i * sz) ++ (news ++ inner.drop (i * sz))) := by
  have h1 : i * sz ≤ n * sz := Nat.mul_le_mul_right _ hi
  have h2 : (n + 1) * sz ≤ cap * sz := Nat.mul_le_mul_right _ hr
  have h3 : (n + 1) * sz = n * sz + sz := by rw [Nat.add_mul, Nat.one_mul]
  have hlen : (inner.take (i * sz) ++ (news ++ inner.drop (i * sz))).length = (n + 1) * sz := by simp; omega
  refine ⟨hlen, .inr ⟨g, cap, _, rfl, Nat.zero_le _, setRow_heap w g _ _ e _ hg, hr, hm, ?_, ?_⟩⟩
  · simp; omega
  · have : (inner.take (i * sz) ++ (news ++ (inner.drop (i * sz) ++ cur.drop ((n + 1) * sz)))) = (inner.take (i * sz) ++ (news ++ inner.drop (i * sz))) ++ cur.drop ((n + 1) * sz) := by simp
    show ((inner.take (i * sz) ++ (news ++ (inner.drop (i * sz) ++ cur.drop ((n + 1) * sz)))).toArray.toList).take _ = _
    rw [show ∀ l : List Value, l.toArray.toList = l from fun l => rfl, this, ← hlen]
    exact List.take_left
/-- The two copies of an insertion, in place. -/
theorem ins_copies {inner news cur : List Value} {n sz cap i : Nat} (hl : inner.length = n * sz) (hc : cur.length = cap * sz) (ht : cur.take (n * sz) = inner) (hn : news.length = sz) (hi : i ≤ n) (hr : n + 1 ≤ cap) :
    ((cur.take ((i + 1) * sz) ++ inner.drop (i * sz) ++ cur.drop ((i + 1) * sz + (inner.drop (i * sz)).length)).take (i * sz) ++ news ++ (cur.take ((i + 1) * sz) ++ inner.drop (i * sz) ++ cur.drop ((i + 1) * sz + (inner.drop (i * sz)).length)).drop (i * sz + news.length)) =
      inner.take (i * sz) ++ (news ++ (inner.drop (i * sz) ++ cur.drop ((n + 1) * sz))) := by
  have h1 : i * sz ≤ n * sz := Nat.mul_le_mul_right _ hi
  have h2 : (n + 1) * sz ≤ cap * sz := Nat.mul_le_mul_right _ hr
  have h3 : (n + 1) * sz = n * sz + sz := by rw [Nat.add_mul, Nat.one_mul]
  have h4 : (i + 1) * sz = i * sz + sz := by rw [Nat.add_mul, Nat.one_mul]
  have hd : (inner.drop (i * sz)).length = n * sz - i * sz := by simp [hl]
  have hs : (i + 1) * sz + (inner.drop (i * sz)).length = (n + 1) * sz := by rw [hd]; omega
  rw [hs]
  have e1 : (cur.take ((i + 1) * sz)).take (i * sz) = inner.take (i * sz) := by
    rw [List.take_take, ← ht, List.take_take]
    congr 1
    omega
  have hlt : (cur.take ((i + 1) * sz)).length = (i + 1) * sz := by rw [List.length_take]; omega
  generalize cur.take ((i + 1) * sz) = A at e1 hlt ⊢
  generalize cur.drop ((n + 1) * sz) = R
  generalize inner.drop (i * sz) = D
  rw [List.append_assoc A D R, List.take_append_of_le_length (by omega), e1, show i * sz + news.length = A.length by omega, List.drop_left, List.append_assoc]
/-- The two copies of an insertion into a new row. -/
theorem ins_copies2 {inner news row : List Value} {n sz i : Nat} (hl : inner.length = n * sz) (ht : row.take (i * sz) = inner.take (i * sz)) (hn : news.length = sz) (hi : i ≤ n) (hr : (n + 1) * sz ≤ row.length) :
    ((row.take (i * sz) ++ news ++ row.drop (i * sz + news.length)).take ((i + 1) * sz) ++ inner.drop (i * sz) ++ (row.take (i * sz) ++ news ++ row.drop (i * sz + news.length)).drop ((i + 1) * sz + (inner.drop (i * sz)).length)) =
      inner.take (i * sz) ++ (news ++ (inner.drop (i * sz) ++ row.drop ((n + 1) * sz))) := by
  have h1 : i * sz ≤ n * sz := Nat.mul_le_mul_right _ hi
  have h3 : (n + 1) * sz = n * sz + sz := by rw [Nat.add_mul, Nat.one_mul]
  have h4 : (i + 1) * sz = i * sz + sz := by rw [Nat.add_mul, Nat.one_mul]
  have hd : (inner.drop (i * sz)).length = n * sz - i * sz := by simp [hl]
  have hs : (i + 1) * sz + (inner.drop (i * sz)).length = (n + 1) * sz := by rw [hd]; omega
  rw [hs]
  have hir : i * sz ≤ row.length := by omega
  have hlt : (row.take (i * sz) ++ news).length = (i + 1) * sz := by rw [List.length_append, List.length_take, hn]; omega
  have e2 : (row.drop (i * sz + news.length)).drop ((n + 1) * sz - (i + 1) * sz) = row.drop ((n + 1) * sz) := by
    rw [List.drop_drop]
    congr 1
    omega
  generalize inner.drop (i * sz) = D
  rw [← e2, ← ht]
  generalize row.drop (i * sz + news.length) = R
  generalize hP : row.take (i * sz) ++ news = P at hlt ⊢
  rw [List.take_append_of_le_length (by omega), List.take_of_length_le (by omega), List.drop_append, List.drop_eq_nil_of_le (by omega), hlt, List.nil_append, ← hP]
  simp only [List.append_assoc]
theorem chunk_ins {inner news : List Value} {n sz i j : Nat} (hl : inner.length = n * sz) (hn : news.length = sz) (hi : i ≤ n) :
    ((inner.take (i * sz) ++ (news ++ inner.drop (i * sz))).drop (j * sz)).take sz = if j < i then (inner.drop (j * sz)).take sz else if j = i then news else (inner.drop ((j - 1) * sz)).take sz := by
  have h1 : i * sz ≤ n * sz := Nat.mul_le_mul_right _ hi
  have htl : (inner.take (i * sz)).length = i * sz := by simp; omega
  split
  · rename_i h
    have h2 : (j + 1) * sz ≤ i * sz := Nat.mul_le_mul_right _ h
    rw [Nat.add_mul, Nat.one_mul] at h2
    rw [List.drop_append_of_le_length (by omega), List.take_append_of_le_length (by simp; omega)]
    apply List.ext_getElem?
    intro q
    rw [List.getElem?_take, List.getElem?_take]
    split
    · rw [List.getElem?_drop, List.getElem?_drop, List.getElem?_take, if_pos (by omega)]
    · rfl
  · split
    · rename_i h1 h2
      subst h2
      rw [List.drop_append, List.drop_eq_nil_of_le (by omega), htl, Nat.sub_self, List.drop_zero, List.nil_append, List.take_append_of_le_length (by omega), List.take_of_length_le (by omega)]
    · rename_i h2 h3
      have h4 : (i + 1) * sz ≤ j * sz := Nat.mul_le_mul_right _ (by omega)
      rw [Nat.add_mul, Nat.one_mul] at h4
      have h5 : j * sz = (j - 1) * sz + sz := by
        obtain ⟨q, rfl⟩ : ∃ q, j = q + 1 := ⟨j - 1, by omega⟩
        rw [Nat.add_mul, Nat.one_mul, Nat.add_sub_cancel]
      rw [List.drop_append, List.drop_eq_nil_of_le (by omega), htl, List.nil_append, List.drop_append, List.drop_eq_nil_of_le (by omega), hn, List.nil_append, List.drop_drop]
      congr 2
      omega
theorem ins_own {α : Type} {d : Ki α} {e B : Nat} {w w' : World} {xs : List α} {y : α} {v v' : Value} {inner news : List Value} {Fs : List (List Nat)} {i : Nat}
    (hl : inner.length = xs.length * d.sz) (hFl : Fs.length = xs.length) (hnd : (v.ownBlock.toList ++ Fs.flatten).Nodup) (hB : ∀ b ∈ v.ownBlock.toList ++ Fs.flatten, B ≤ b) (hBw : B ≤ w.heap.size)
    (hT : ∀ i x, xs[i]? = some x → ∃ Fi, Fs[i]? = some Fi ∧ d.T w Fi x ((inner.drop (i * d.sz)).take d.sz)) (hn : news.length = d.sz) (hi : i ≤ xs.length) (hy : d.T w' [] y news)
    (ho : w'.ownsRow 0 e d.sz v' (xs.length + 1) (inner.take (i * d.sz) ++ (news ++ inner.drop (i * d.sz)))) (hg : w.grownBy w' v.ownBlock) (hat : v'.ownBlock = v.ownBlock ∨ v'.ownBlock = some w.heap.size) :
    OwnR d e B w' (xs.take i ++ y :: xs.drop i) v' := by
  have hlen : (xs.take i ++ y :: xs.drop i).length = xs.length + 1 := by simp; omega
  have hfl : (Fs.take i ++ [] :: Fs.drop i).flatten = Fs.flatten := by
    rw [List.flatten_append, List.flatten_cons, List.nil_append, ← List.flatten_append, List.take_append_drop]
  have hltF : ∀ b ∈ Fs.flatten, b < w.heap.size := by
    intro b hb
    obtain ⟨Fi, hi, hb⟩ := List.mem_flatten.1 hb
    obtain ⟨i, hlt, rfl⟩ := List.getElem_of_mem hi
    obtain ⟨Fj, h1, h2⟩ := hT i _ (List.getElem?_eq_getElem (by omega))
    rw [List.getElem?_eq_getElem hlt] at h1
    cases h1
    exact d.T_lt h2 b hb
  have hnd2 := List.nodup_append.1 hnd
  have hfr : ∀ b ∈ Fs.flatten, w'.heap[b]? = w.heap[b]? := fun b hb => hg.block b (hltF b hb) (fun e => hnd2.2.2 b (by rw [← e]; simp) b hb rfl)
  have hTf : ∀ j x, xs[j]? = some x → ∃ Fi, Fs[j]? = some Fi ∧ d.T w' Fi x ((inner.drop (j * d.sz)).take d.sz) := fun j x hj => by
    obtain ⟨Fi, h1, h2⟩ := hT j x hj
    exact ⟨Fi, h1, d.T_frame (fun b hb => hfr b (List.mem_flatten.2 ⟨Fi, List.mem_of_getElem? h1, hb⟩)) h2⟩
  refine ⟨v'.ownBlock.toList ++ (Fs.take i ++ [] :: Fs.drop i).flatten, ⟨_, Fs.take i ++ [] :: Fs.drop i, ownsL_of (base := 0) (by rw [hlen]; exact ho), by rw [hlen]; simp; omega, by rw [hlen]; exact Nat.le_refl _, List.Perm.refl _, fun j x hj => ?_⟩, ?_, ?_, Ex.of (base := 0) (by rw [hlen]; exact ho)⟩
  · rw [chunk_ins hl hn hi]
    have htx : (xs.take i).length = i := by simp; omega
    have htf : (Fs.take i).length = i := by simp; omega
    by_cases h1 : j < i
    · rw [if_pos h1]
      rw [List.getElem?_append_left (by omega), List.getElem?_take, if_pos h1] at hj
      obtain ⟨Fi, h2, h3⟩ := hTf j x hj
      exact ⟨Fi, by rw [List.getElem?_append_left (by omega), List.getElem?_take, if_pos h1]; exact h2, h3⟩
    · rw [if_neg h1]
      rw [List.getElem?_append_right (by omega), htx] at hj
      by_cases h2 : j = i
      · subst h2
        rw [if_pos rfl]
        simp only [Nat.sub_self, List.getElem?_cons_zero, Option.some.injEq] at hj
        subst hj
        exact ⟨[], by rw [List.getElem?_append_right (by omega), htf]; simp, hy⟩
      · rw [if_neg h2]
        obtain ⟨q, hq⟩ : ∃ q, j - i = q + 1 := ⟨j - i - 1, by omega⟩
        rw [hq, List.getElem?_cons_succ, List.getElem?_drop, show i + q = j - 1 by omega] at hj
        obtain ⟨Fi, h3, h4⟩ := hTf (j - 1) x hj
        exact ⟨Fi, by rw [List.getElem?_append_right (by omega), htf, hq, List.getElem?_cons_succ, List.getElem?_drop, show i + q = j - 1 by omega]; exact h3, h4⟩
  · rw [hfl]
    rcases hat with h | h
    · rw [h]; exact hnd
    · rw [h]
      exact List.nodup_append.2 ⟨by simp, hnd2.2.1, fun a ha b hb => by have := hltF b hb; simp at ha; omega⟩
  · rw [hfl]
    intro b hb
    rcases List.mem_append.1 hb with hb | hb
    · rcases hat with h | h
      · exact hB b (List.mem_append_left _ (by rw [← h]; exact hb))
      · rw [h] at hb
        simp at hb
        omega
    · exact hB b (List.mem_append_right _ hb)
end Go.Proofs.Ytipemgjgimpmbaa.H
