/-
Rows of Pair of the call's own: read, grown, one taken out, one put in. Conditions: none.
-/
import Derived.Test.YtiefpllmnmmdlaaHVwP
import Derived.Test.YtiefpllmnmmdlaaHOwn
import Derived.Laws.CopyRow
import Derived.Laws.IdiomCopy
namespace Go.Proofs.Ytiefpllmnmmdlaa.H
open Go.RowKit
set_option linter.unusedVariables false
set_option linter.unusedSimpArgs false
def encP (p : Pair) : List Value := [.string p.Key, .string p.Value]
theorem flat_len : ∀ L : List Pair, (L.flatMap encP).length = L.length * 2
  | [] => rfl
  | p :: L => by rw [List.flatMap_cons, List.length_append, flat_len L, List.length_cons]; simp [encP]; omega
theorem flat_drop : ∀ (L : List Pair) (i : Nat), (L.flatMap encP).drop (i * 2) = (L.drop i).flatMap encP
  | [], i => by simp
  | p :: L, 0 => by simp
  | p :: L, i + 1 => by
    rw [List.drop_succ_cons, ← flat_drop L i, List.flatMap_cons, show (i + 1) * 2 = 2 + i * 2 by omega, ← List.drop_drop]
    rfl
theorem flat_take : ∀ (L : List Pair) (i : Nat), (L.flatMap encP).take (i * 2) = (L.take i).flatMap encP
  | [], i => by simp
  | p :: L, 0 => by simp
  | p :: L, i + 1 => by
    rw [List.take_succ_cons, List.flatMap_cons, List.flatMap_cons, ← flat_take L i, show (i + 1) * 2 = i * 2 + 2 by omega]
    rfl
theorem flat_get : ∀ {L : List Pair} {i : Nat} {p : Pair}, L[i]? = some p → (L.flatMap encP)[i * 2]? = some (.string p.Key) ∧ (L.flatMap encP)[i * 2 + 1]? = some (.string p.Value)
  | [], i, p, h => by simp at h
  | q :: L, 0, p, h => by simp at h; subst h; exact ⟨rfl, rfl⟩
  | q :: L, i + 1, p, h => by
    have ih := flat_get (L := L) (i := i) (p := p) (by simpa using h)
    rw [List.flatMap_cons, show (i + 1) * 2 = 2 + i * 2 by omega, show 2 + i * 2 + 1 = 2 + (i * 2 + 1) by omega, List.getElem?_append_right (by simp [encP] <;> omega), List.getElem?_append_right (by simp [encP] <;> omega)]
    simpa [encP, show 2 + (i * 2 + 1) - 2 = i * 2 + 1 by omega] using ih
theorem flat_one (L : List Pair) : ∀ u ∈ L.flatMap encP, u.oneCell' = true := fun u hu => by
  obtain ⟨p, _, h⟩ := List.mem_flatMap.1 hu
  simp [encP] at h
  rcases h with rfl | rfl <;> rfl
theorem flat_set {L : List Pair} {i : Nat} {p : Pair} (h : L[i]? = some p) (k s : ByteArray) : ((L.flatMap encP).set (i * 2) (.string k)).set (i * 2 + 1) (.string s) = (L.set i ⟨k, s⟩).flatMap encP := by
  have hi := (List.getElem?_eq_some_iff.1 h).1
  have e1 : L = L.take i ++ p :: L.drop (i + 1) := by
    obtain ⟨_, rfl⟩ := List.getElem?_eq_some_iff.1 h
    rw [← List.drop_eq_getElem_cons hi, List.take_append_drop]
  have hl : (L.take i).length = i := by rw [List.length_take]; omega
  generalize L.take i = A at e1 hl
  generalize L.drop (i + 1) = C at e1
  subst e1
  subst hl
  have hA := flat_len A
  rw [List.set_append_right _ _ (Nat.le_refl _), Nat.sub_self, List.set_cons_zero, List.flatMap_append, List.flatMap_append, List.flatMap_cons, List.flatMap_cons]
  rw [List.set_append_right _ _ (by omega), List.set_append_right _ _ (by omega), hA]
  simp [encP]
/-- A row of Pair of the call's own, in a block from B on. -/
def PR (B : Nat) (w : World) (L : List Pair) (v : Value) : Prop := w.ownsRow B 64 2 v L.length (L.flatMap encP)
section
variable {B : Nat} {w w1 : World} {L : List Pair} {v : Value}
theorem PR.nil : PR B w [] (.slice none 0 0) := World.ownsRow_nil _ _ _ _
theorem PR.lit (w : World) : PR w.heap.size (w.alloc (.cells #[] 64)) [] (.slice (some ⟨w.heap.size, 0, none⟩) 0 0) := lit_row w
theorem PR.move (h : PR B w L v) (hm : ∀ k, v.ownBlock = some k → w1.heap[k]? = w.heap[k]?) : PR B w1 L v := own_move h hm
theorem PR.lt (h : PR B w L v) : ∀ k, v.ownBlock = some k → B ≤ k ∧ k < w.heap.size := fun k hk => World.ownsRow.lt h k hk
theorem PR.below (h : PR B w L v) (hb : Below w.heap.size w w1) : PR B w1 L v := h.move (fun k hk => hb.block k (h.lt k hk).2)
theorem PR.mono {B' : Nat} (h : PR B w L v) (hb : B' ≤ B) : PR B' w L v := by
  refine ⟨h.1, ?_⟩
  rcases h.2 with h2 | ⟨g, cap, cur, hv, hg, r⟩
  · exact .inl h2
  · exact .inr ⟨g, cap, cur, hv, Nat.le_trans hb hg, r⟩
theorem PR.form (h : PR B w L v) : ∃ A c, v = .slice A L.length c ∧ L.length ≤ c ∧ c ≤ maxLen := by
  obtain ⟨A, c, e, h1, h2, _⟩ := own_read h
  exact ⟨A, c, e, h1, h2⟩
theorem PR.blk {g c : Nat} (h : PR B w L (.slice (some ⟨g, 0, none⟩) L.length c)) : ∃ cur, w.heap[g]? = some (.cells cur 64 (0, 0)) ∧ L.length ≤ c ∧ c ≤ maxLen ∧ cur.size = c * 2 ∧ cur.toList.take (L.length * 2) = L.flatMap encP ∧ B ≤ g := by
  rcases h.2 with ⟨h1, _⟩ | ⟨g', cap, cur, hv, hg, hh, hc, hm, hs, ht⟩
  · cases h1
  · simp only [Value.slice.injEq, Option.some.injEq, Addr.mk.injEq, and_true, true_and] at hv
    obtain ⟨rfl, rfl⟩ := hv
    exact ⟨cur, hh, hc, hm, hs, ht, hg⟩
theorem PR.at {i : Nat} {p : Pair} (h : PR B w L v) (hp : L[i]? = some p) : ∃ g c, v = .slice (some ⟨g, 0, none⟩) L.length c ∧ L.length ≤ c ∧ c ≤ maxLen ∧ w.cell? ⟨g, i * 2, none⟩ = some (.string p.Key) ∧ w.cell? ⟨g, i * 2 + 1, none⟩ = some (.string p.Value) ∧ w.frozen? ⟨g, i * 2, none⟩ = false ∧ w.frozen? ⟨g, i * 2 + 1, none⟩ = false ∧ B ≤ g ∧ g < w.heap.size := by
  have hi := (List.getElem?_eq_some_iff.1 hp).1
  rcases h.2 with ⟨_, h0⟩ | ⟨g, cap, cur, rfl, hg, hh, hc, hm, hs, ht⟩
  · omega
  · obtain ⟨e1, e2⟩ := flat_get hp
    have key : ∀ o u, (L.flatMap encP)[o]? = some u → w.cell? ⟨g, o, none⟩ = some u := fun o u ho => by
      rw [← ht, List.getElem?_take] at ho
      split at ho
      · simp [World.cell?, hh, ← Array.getElem?_toList, ho]
      · cases ho
    exact ⟨g, cap, rfl, hc, hm, key _ _ e1, key _ _ e2, by simp [World.frozen?, hh], by simp [World.frozen?, hh], hg, (Array.getElem?_eq_some_iff.1 hh).1⟩
theorem set2_grown {g c i : Nat} (h : PR B w L (.slice (some ⟨g, 0, none⟩) L.length c)) (a b : Value) : w.grownBy ((w.setCell ⟨g, i * 2, none⟩ a).setCell ⟨g, i * 2 + 1, none⟩ b) (some g) := (setCells_own [a, b] w _ (i * 2) h).2
theorem set1_grown {g c i : Nat} (h : PR B w L (.slice (some ⟨g, 0, none⟩) L.length c)) (a : Value) : w.grownBy (w.setCell ⟨g, i * 2 + 1, none⟩ a) (some g) := (setCells_own [a] w _ (i * 2 + 1) h).2
theorem PR.set2 {g c i : Nat} {p : Pair} (h : PR B w L (.slice (some ⟨g, 0, none⟩) L.length c)) (hp : L[i]? = some p) (k s : ByteArray) : PR B ((w.setCell ⟨g, i * 2, none⟩ (.string k)).setCell ⟨g, i * 2 + 1, none⟩ (.string s)) (L.set i ⟨k, s⟩) (.slice (some ⟨g, 0, none⟩) L.length c) := by
  have h1 := setCells_own [.string k, .string s] w _ (i * 2) h
  unfold PR
  rw [List.length_set, ← flat_set hp k s]
  exact h1.1
theorem PR.set1 {g c i : Nat} {p : Pair} (h : PR B w L (.slice (some ⟨g, 0, none⟩) L.length c)) (hp : L[i]? = some p) (s : ByteArray) : PR B (w.setCell ⟨g, i * 2 + 1, none⟩ (.string s)) (L.set i ⟨p.Key, s⟩) (.slice (some ⟨g, 0, none⟩) L.length c) := by
  have h1 := setCells_own [.string s] w _ (i * 2 + 1) h
  unfold PR
  rw [List.length_set, ← flat_set hp p.Key s]
  have e : (L.flatMap encP).set (i * 2) (.string p.Key) = L.flatMap encP := by
    have := (flat_get hp).1
    obtain ⟨hlt, he⟩ := List.getElem?_eq_some_iff.1 this
    rw [← he, List.set_getElem_self]
  rw [e]
  exact h1.1
theorem PR.own (h : PR B w L v) : OwnR kPair 64 B w L v := by
  have hk : KO kPair 64 w w B L v := by
    refine ⟨L.flatMap encP, h, flat_one L, fun i x hi => ?_⟩
    have e : ((L.flatMap encP).drop (i * kPair.sz)).take kPair.sz = [.string x.Key, .string x.Value] := by
      show ((L.flatMap encP).drop (i * 2)).take 2 = _
      rw [flat_drop]
      obtain ⟨hlt, rfl⟩ := List.getElem?_eq_some_iff.1 hi
      rw [List.drop_eq_getElem_cons hlt, List.flatMap_cons]
      rfl
    rw [e]
    exact Pair.mk_ w x
  exact hk.own (fun x cs hx => by
    obtain rfl := Pair.opn hx
    exact Pair.mkT w x)
end
theorem info_pair : (Try.prog.info? 64).map (fun i => (i.zero, i.size, i.bytes)) = some (some (.agg #[.string ⟨#[]⟩, .string ⟨#[]⟩]), 2, 32) := by kernel_rfl
/-- 'append(out, Pair{..})'. -/
theorem list_pair {w : World} {B : Nat} {ops : Array Oper} {rest : List Oper} {o : Oper} {a : Act} {Q : Exit → Act → World → Prop} (hgd : o.guard = none) (s x : Operand) (t : TypeId)
    (ho : o.op = .call { callee := .builtin .append, args := #[s, x], argTypes := #[t, t] }) (ht : t = 35) {L : List Pair} (p : Pair) {v : Value} (hs : a.eval s = v) (h : PR B w L v) (g : Nat) (c : Nat) (hx : a.eval x = .slice (some ⟨g, 0, none⟩) 1 c)
    (hc : Box w g #[.string p.Key, .string p.Value]) (hBw : B ≤ w.heap.size) (hn : L.length ≤ 1000000)
    (hK : ∀ A c w', PR B w' (L ++ [p]) (.slice A (L.length + 1) c) → w.grownBy w' v.ownBlock → ((Value.slice A (L.length + 1) c).ownBlock = v.ownBlock ∨ (Value.slice A (L.length + 1) c).ownBlock = some w.heap.size) → wpList Try.prog ops Q rest (a.put o.dst (.slice A (L.length + 1) c)) w') : wpList Try.prog ops Q (o :: rest) a w := by
  subst ht
  obtain ⟨i0, hi, hz0, hz1, hz2⟩ := info_parts info_pair
  refine wpList_append_own_at _ hgd s x 35 ho B 64 i0 _ 2 32 Try.underlying35 hi hz0 hz1 hz2 rfl (by decide) v _ _ hs h ⟨g, 0, none⟩ 1 c (encP p) hx rfl (fun j u hj => ?_) (fun u hu => by simp [encP] at hu; rcases hu with rfl | rfl <;> rfl) (by simp only [maxLen]; omega) (by omega) hBw fun v' w' hown' hgr _ hat => ?_
  · have hcj := hc j u (by simpa [encP] using hj)
    by_cases e0 : j = 0
    · subst e0; exact hcj
    · simpa [Addr.add, e0] using hcj
  · have hO' : PR B w' (L ++ [p]) v' := by
      unfold PR
      rw [List.length_append, List.length_singleton, List.flatMap_append]
      simpa using hown'
    obtain ⟨A, c, rfl, _⟩ := hO'.form
    simp only [List.length_append, List.length_singleton] at hO' hat ⊢
    exact hK A c w' hO' hgr hat
/-- A builtin by its run, at a step of a region that draws its order. -/
theorem step_bi {P : Program} {ops : Array Oper} {o : Oper} {a : Act} {w : World} {K : Act → World → Prop} {Q : Exit → Act → World → Prop} {E : Prop}
    (hg : o.guard = none) (d x : Operand) (dT sT : TypeId) (hop : o.op = Op.call { callee := Callee.builtin Builtin.append, args := #[d, x], argTypes := #[dT, sT] })
    (v u : Value) (hd : a.eval d = v) (hx : a.eval x = u) {v' : Value} {w' : World} (hr : (Builtin.append_ #[dT, sT] o.type #[v, u]).run P w = .ok v' w') (hK : K (a.put o.dst v') w') :
    if Region.wanted o (yielded ops a.tmps) = true then Oper.wp P o a w K Q else E := by
  have hw : Region.wanted o (yielded ops a.tmps) = true := by simp [Region.wanted, hg]
  rw [if_pos hw]
  unfold Oper.wp
  simp [execOp, hop, resolve, invoke, builtin, hd, hx, hr, Result.andThen]
  exact hK
theorem step_cp {P : Program} {ops : Array Oper} {o : Oper} {a : Act} {w : World} {K : Act → World → Prop} {Q : Exit → Act → World → Prop} {E : Prop}
    (hg : o.guard = none) (d x : Operand) (dT sT : TypeId) (hop : o.op = Op.call { callee := Callee.builtin Builtin.copy, args := #[d, x], argTypes := #[dT, sT] })
    (v u : Value) (hd : a.eval d = v) (hx : a.eval x = u) {v' : Value} {w' : World} (hr : (Builtin.copy_ #[dT, sT] o.type #[v, u]).run P w = .ok v' w') (hK : K (a.put o.dst v') w') :
    if Region.wanted o (yielded ops a.tmps) = true then Oper.wp P o a w K Q else E := by
  have hw : Region.wanted o (yielded ops a.tmps) = true := by simp [Region.wanted, hg]
  rw [if_pos hw]
  unfold Oper.wp
  simp [execOp, hop, resolve, invoke, builtin, hd, hx, hr, Result.andThen]
  exact hK
theorem grown_setRow {w : World} {g : Nat} (cs : Array Value) : w.grownBy (w.setRow g cs) (some g) :=
  ⟨rfl, rfl, rfl, by simp [World.setRow], fun k _ hk => setRow_other w g k cs (fun e => hk (by rw [e]))⟩
theorem sub_cells {w : World} {g m o : Nat} {cur : Array Value} {t : TypeId} {inner : List Value} (h : w.heap[g]? = some (.cells cur t (0, 0))) (ht : cur.toList.take m = inner) : ∀ j u, (inner.drop o)[j]? = some u → w.cell? ((⟨g, o, none⟩ : Addr).add j) = some u := fun j u hj => by
  have hadd : (⟨g, o, none⟩ : Addr).add j = ⟨g, o + j, none⟩ := by unfold Addr.add; split <;> simp_all
  rw [hadd]
  rw [List.getElem?_drop, ← ht, List.getElem?_take] at hj
  split at hj
  · simp [World.cell?, h, ← Array.getElem?_toList, hj]
  · cases hj
theorem run_copy_rowQ {P : Program} (w : World) (dT sT ty elem : TypeId) (k g o dLen dCap : Nat) (a : Addr) (sLen sCap : Nat) (cur : Array Value) (t : TypeId) (cs : List Value)
    (hu : P.underlying dT = some (.slice elem)) (hs : (P.info? elem).map (·.size) = some k)
    (hg : w.heap[g]? = some (.cells cur t (0, 0))) (hn : cs.length = Nat.min sLen dLen * k)
    (hsrc : ∀ j v, cs[j]? = some v → w.cell? (a.add j) = some v) (hfit : o + cs.length ≤ cur.size) (h1 : ∀ v ∈ cs, v.oneCell' = true) :
    (Builtin.copy_ #[dT, sT] ty #[.slice (some ⟨g, o, none⟩) dLen dCap, .slice (some a) sLen sCap]).run P w =
      .ok (goInt (Nat.min sLen dLen)) (w.setRow g (cur.toList.take o ++ cs ++ cur.toList.drop (o + cs.length)).toArray) := by
  have hl := run_loadCells_list (P := P) w a cs hsrc
  have hst := run_storeCells_at P g o t cs 0 cur w hg (by simpa using hfit) h1
  cases hq : P.info? elem with
  | none => simp [hq] at hs
  | some i =>
    have hi : i.size = k := by simpa [hq] using hs
    simp [Builtin.copy_, run_underlying hu, Builtin.lenOf, Builtin.firstCells, sizeOf, typeInfo, hq, hi, ← hn, hl, hst]
/-- Nothing is copied. -/
theorem run_copy_rowP {P : Program} (w : World) (dT sT ty elem : TypeId) (k : Nat) (D : Addr) (dLen dCap : Nat) (a : Addr) (sLen sCap : Nat)
    (hu : P.underlying dT = some (.slice elem)) (hs : (P.info? elem).map (·.size) = some k) (h0 : dLen = 0) :
    (Builtin.copy_ #[dT, sT] ty #[.slice (some D) dLen dCap, .slice (some a) sLen sCap]).run P w = .ok (.int .i64 0) w := by
  subst h0
  have hl := run_loadCells_list (P := P) w a [] (by simp)
  cases hq : P.info? elem with
  | none => simp [hq] at hs
  | some i =>
    have hi : i.size = k := by simpa [hq] using hs
    simp at hl
    simp [Builtin.copy_, run_underlying hu, Builtin.lenOf, Builtin.firstCells, sizeOf, typeInfo, hq, hi, hl, goInt, storeCells, Sem.run, Result.andThen]
/-- 'append(out[:i], out[i+1:]...)': in place. -/
theorem PR.rem {B : Nat} {w : World} {L : List Pair} {g c i : Nat} (h : PR B w L (.slice (some ⟨g, 0, none⟩) L.length c)) (hi : i < L.length) (ty : TypeId) (A : Addr) (cx : Nat) (hA : i + 1 < L.length → A = ⟨g, (i + 1) * 2, none⟩) :
    ∃ w', (Builtin.append_ #[35, 35] ty #[.slice (some ⟨g, 0, none⟩) i c, .slice (some A) (L.length - (i + 1)) cx]).run Try.prog w = .ok (.slice (some ⟨g, 0, none⟩) (L.length - 1) c) w' ∧ PR B w' (L.take i ++ L.drop (i + 1)) (.slice (some ⟨g, 0, none⟩) (L.length - 1) c) ∧ w.grownBy w' (some g) := by
  obtain ⟨cur, hh, hc, hm, hs, ht, hB⟩ := h.blk
  obtain ⟨i0, hinf, hz0, hz1, hz2⟩ := info_parts info_pair
  have hfl := flat_len (L.drop (i + 1))
  rw [List.length_drop] at hfl
  have hrun := run_append_room (P := Try.prog) w 35 ty 64 i0 Try.underlying35 hinf g i c cur hh A (L.length - (i + 1)) cx ((L.drop (i + 1)).flatMap encP) (by rw [hfl, hz1]) (fun j u hj => by
    by_cases hlt : i + 1 < L.length
    · rw [hA hlt]
      rw [← flat_drop] at hj
      exact sub_cells hh ht j u hj
    · rw [List.drop_eq_nil_of_le (by omega)] at hj
      simp at hj) (flat_one _) (by omega) (by rw [hfl, hz1, hs]; omega)
  rw [show i + (L.length - (i + 1)) = L.length - 1 by omega] at hrun
  refine ⟨_, hrun, ?_, grown_setRow _⟩
  have hl2 : (L.take i ++ L.drop (i + 1)).length = L.length - 1 := by simp; omega
  have hct : cur.toList.take (i * i0.size) = (L.take i).flatMap encP := by
    rw [hz1, ← flat_take, ← ht, List.take_take, Nat.min_eq_left (by omega)]
  refine ⟨?_, .inr ⟨g, c, _, by rw [hl2], hB, setRow_heap w g _ _ _ _ hh, by rw [hl2]; omega, hm, ?_, ?_⟩⟩
  · rw [flat_len, hl2]
  · have h3 : (cur.toList.take (i * 2)).length = i * 2 := by rw [List.length_take, Array.length_toList, hs]; omega
    simp only [List.size_toArray, List.length_append, h3, hfl, List.length_drop, Array.length_toList, hs, hz1]
    omega
  · rw [hct, hl2]
    show List.take _ ((L.take i).flatMap encP ++ (L.drop (i + 1)).flatMap encP ++ _) = _
    rw [← List.flatMap_append, List.take_left' (by rw [flat_len, hl2])]
/-- 'copy(out[i+1:], out[i:])' where out has just grown by one. -/
theorem PR.shift {B : Nat} {w : World} {L : List Pair} {z : Pair} {g c i : Nat} (h : PR B w (L ++ [z]) (.slice (some ⟨g, 0, none⟩) (L.length + 1) c)) (hi : i ≤ L.length) (ty : TypeId) (D : Addr) (cd cs : Nat) (hD : i < L.length → D = ⟨g, (i + 1) * 2, none⟩) :
    ∃ w' p, (Builtin.copy_ #[35, 35] ty #[.slice (some D) (L.length - i) cd, .slice (some ⟨g, i * 2, none⟩) (L.length + 1 - i) cs]).run Try.prog w = .ok (.int .i64 ((L.length - i : Nat) : Int)) w' ∧ PR B w' (L.take i ++ p :: L.drop i) (.slice (some ⟨g, 0, none⟩) (L.length + 1) c) ∧ w.grownBy w' (some g) := by
  have hLz : (L ++ [z]).length = L.length + 1 := by simp
  have h' : PR B w (L ++ [z]) (.slice (some ⟨g, 0, none⟩) (L ++ [z]).length c) := by rw [hLz]; exact h
  obtain ⟨cur, hh, hc, hm, hs, ht, hB⟩ := h'.blk
  rw [hLz] at hc ht
  obtain ⟨i0, hinf, hz0, hz1, hz2⟩ := info_parts info_pair
  have hsz : (Try.prog.info? 64).map (·.size) = some 2 := by rw [hinf]; simp [hz1]
  have hcs : ((L.drop i).flatMap encP).length = (L.length - i) * 2 := by rw [flat_len, List.length_drop]
  obtain ⟨p, hp⟩ : ∃ p, (L ++ [z])[i]? = some p := ⟨_, List.getElem?_eq_getElem (by simp; omega)⟩
  by_cases hin : i < L.length
  case neg =>
    obtain rfl : i = L.length := by omega
    refine ⟨w, z, ?_, by rw [List.take_length, List.drop_length]; exact h, World.grownBy.refl _ _⟩
    have hrun := run_copy_rowP (P := Try.prog) w 35 35 ty 64 2 D (L.length - L.length) cd ⟨g, L.length * 2, none⟩ (L.length + 1 - L.length) cs Try.underlying35 hsz
    simpa using hrun (by simp)
  rw [hD hin]
  have hmin : (L.length + 1 - i).min (L.length - i) = L.length - i := Nat.min_eq_right (by omega)
  have hrun := run_copy_rowQ (P := Try.prog) w 35 35 ty 64 2 g ((i + 1) * 2) (L.length - i) cd ⟨g, i * 2, none⟩ (L.length + 1 - i) cs cur 64 ((L.drop i).flatMap encP) Try.underlying35 hsz hh (by rw [hcs, hmin]) (fun j u hj => ?_) (by rw [hcs, hs]; omega) (flat_one _)
  · rw [hmin] at hrun
    refine ⟨_, p, hrun, ?_, grown_setRow _⟩
    have hl3 : (L.take i ++ p :: L.drop i).length = L.length + 1 := by simp; omega
    have ht1 : cur.toList.take ((i + 1) * 2) = (L.take i ++ [p]).flatMap encP := by
      have e1 : (L ++ [z]).take (i + 1) = L.take i ++ [p] := by
        rw [take_snoc hp, List.take_append_of_le_length (by omega)]
      rw [← e1, ← flat_take, ← ht, List.take_take, Nat.min_eq_left (by omega)]
    refine ⟨by rw [flat_len, hl3], .inr ⟨g, c, _, by rw [hl3], hB, setRow_heap w g _ _ _ _ hh, by rw [hl3]; omega, hm, ?_, ?_⟩⟩
    · have h3 : (cur.toList.take ((i + 1) * 2)).length = (i + 1) * 2 := by rw [List.length_take, Array.length_toList, hs]; omega
      simp only [List.size_toArray, List.length_append, h3, hcs, List.length_drop, Array.length_toList, hs]
      omega
    · rw [ht1, hl3]
      show List.take _ ((L.take i ++ [p]).flatMap encP ++ (L.drop i).flatMap encP ++ _) = _
      rw [← List.flatMap_append, List.append_assoc, List.singleton_append, List.take_left' (by rw [flat_len, hl3])]
  · have hj2 : (((L ++ [z]).flatMap encP).drop (i * 2))[j]? = some u := by
      rw [flat_drop, List.drop_append_of_le_length (by omega), List.flatMap_append, List.getElem?_append_left (List.getElem?_eq_some_iff.1 hj).1]
      exact hj
    exact sub_cells hh ht j u hj2
end Go.Proofs.Ytiefpllmnmmdlaa.H
