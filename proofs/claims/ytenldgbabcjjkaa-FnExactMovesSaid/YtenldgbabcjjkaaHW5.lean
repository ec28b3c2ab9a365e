/-
WantsOk, what it is: no program in sight. Conditions: none.
-/
import Derived.Test.YtenldgbabcjjkaaHW4
namespace Go.Proofs.Ytenldgbabcjjkaa.H
open Go.RowKit Go.Sort
set_option linter.unusedVariables false
set_option linter.unusedSimpArgs false
set_option maxRecDepth 100000
def wantOkF (w : Want) : Bool := nameOk w.Name && namesF w.Wants 20 && slotsF w.Has
def wLt (a b : Want) : Bool := ltS a.Name b.Name
def wantsF (l : List Want) : Bool := decide ((l.length : Int) ≤ 30) && (ordF wantOkF wLt none l && apF [] (l.map (·.Has)).flatten)
def crossF (d : List Want) (w : Want) : Bool := d.all (fun v => w.Has.all (fun s => !inF v.Has s))
def sF : List Want → Option Want → List Want → Bool
  | _, _, [] => true
  | d, p, w :: r => wantOkF w && (match p with | none => true | some q => wLt q w) && crossF d w && sF (d ++ [w]) (some w) r
theorem ordF_cons {α : Type} (ok : α → Bool) (lt : α → α → Bool) (p : Option α) (s : α) (r : List α) : ordF ok lt p (s :: r) = (ok s && (match p with | none => true | some q => lt q s) && ordF ok lt (some s) r) := rfl
theorem sF_cons (d : List Want) (p : Option Want) (w : Want) (r : List Want) : sF d p (w :: r) = (wantOkF w && (match p with | none => true | some q => wLt q w) && crossF d w && sF (d ++ [w]) (some w) r) := rfl
theorem ordF_pair {α : Type} {ok : α → Bool} {lt : α → α → Bool} (htr : ∀ {a b c}, lt a b = true → lt b c = true → lt a c = true) : ∀ (l : List α) (p : Option α), ordF ok lt p l = true → (∀ q, p = some q → ∀ x ∈ l, lt q x = true) ∧ l.Pairwise (fun a b => lt a b = true)
  | [], _, _ => ⟨fun _ _ x hx => (by cases hx), List.Pairwise.nil⟩
  | s :: r, p, h => by
    rw [ordF_cons] at h
    simp only [Bool.and_eq_true] at h
    obtain ⟨⟨h1, h2⟩, h3⟩ := h
    obtain ⟨i1, i2⟩ := ordF_pair (ok := ok) (lt := lt) htr r (some s) h3
    refine ⟨fun q hq x hx => ?_, List.Pairwise.cons (fun x hx => i1 s rfl x hx) i2⟩
    subst hq
    rcases List.mem_cons.1 hx with rfl | hx
    · exact h2
    · exact htr h2 (i1 s rfl x hx)
theorem slotLt_trans {a b c : Slot} (h1 : slotLt a b = true) (h2 : slotLt b c = true) : slotLt a c = true := by
  simp only [slotLt, ltS, Bool.or_eq_true, Bool.and_eq_true, beq_iff_eq, decide_eq_true_eq] at h1 h2 ⊢
  rcases h1 with h1 | ⟨e1, h1⟩
  · rcases h2 with h2 | ⟨e2, h2⟩
    · exact .inl (less_trans h1 h2)
    · exact .inl (by rw [← e2]; exact h1)
  · rcases h2 with h2 | ⟨e2, h2⟩
    · exact .inl (by rw [e1]; exact h2)
    · exact .inr ⟨e1.trans e2, by omega⟩
theorem slotLt_ne {a b : Slot} (h : slotLt a b = true) : slEq a b = false := by
  cases hh : slEq a b with
  | false => rfl
  | true =>
    simp only [slEq, Bool.and_eq_true, beq_iff_eq, decide_eq_true_eq] at hh
    simp only [slotLt, ltS, hh.1, less_irr, hh.2, Bool.false_or, beq_self_eq_true, Bool.true_and, decide_eq_true_eq] at h
    omega
theorem slots_apart {l : List Slot} (h : slotsF l = true) : l.Pairwise (fun a b => slEq a b = false) := by
  unfold slotsF at h
  rw [Bool.and_eq_true] at h
  exact (ordF_pair (ok := slotOkF) (lt := slotLt) slotLt_trans l none h.2).2.imp (fun h => slotLt_ne h)
theorem apF_app : ∀ (h r acc : List Slot), h.Pairwise (fun a b => slEq a b = false) → apF acc (h ++ r) = (h.all (fun s => !inF acc s) && apF (acc ++ h) r)
  | [], r, acc, _ => by simp
  | s :: t, r, acc, hp => by
    obtain ⟨p1, p2⟩ := List.pairwise_cons.1 hp
    rw [List.cons_append, apF_cons, apF_app t r (acc ++ [s]) p2, List.all_cons]
    have e : t.all (fun q => !inF (acc ++ [s]) q) = t.all (fun q => !inF acc q) := by
      rw [Bool.eq_iff_iff]
      simp only [List.all_eq_true]
      exact ⟨fun h q hq => by have := h q hq; rw [inF_app, p1 q hq, Bool.or_false] at this; exact this, fun h q hq => by rw [inF_app, p1 q hq, Bool.or_false]; exact h q hq⟩
    rw [e, List.append_assoc, List.singleton_append]
    cases inF acc s <;> simp
theorem inF_flat (d : List Want) (s : Slot) : inF (d.map (·.Has)).flatten s = d.any (fun v => inF v.Has s) := by
  unfold inF
  rw [List.any_flatten, List.any_map]
  rfl
theorem cross_eq (d : List Want) (w : Want) : w.Has.all (fun s => !inF (d.map (·.Has)).flatten s) = crossF d w := by
  unfold crossF
  rw [Bool.eq_iff_iff]
  simp only [List.all_eq_true, inF_flat, Bool.not_eq_true', List.any_eq_false]
  exact ⟨fun h v hv s hs => by have := h s hs v hv; simpa using this, fun h s hs v hv => by have := h v hv s hs; simpa using this⟩
theorem sF_eq : ∀ (r d : List Want) (p : Option Want), sF d p r = (ordF wantOkF wLt p r && apF (d.map (·.Has)).flatten (r.map (·.Has)).flatten)
  | [], d, p => by cases p <;> rfl
  | w :: r, d, p => by
    rw [sF_cons, ordF_cons, sF_eq r (d ++ [w]) (some w), List.map_cons, List.flatten_cons]
    cases hw : wantOkF w with
    | false => simp
    | true =>
      have hs : slotsF w.Has = true := by unfold wantOkF at hw; simp only [Bool.and_eq_true] at hw; exact hw.2
      rw [apF_app _ _ _ (slots_apart hs), cross_eq, List.map_append, List.flatten_append]
      simp only [Bool.true_and, List.map_cons, List.map_nil, List.flatten_cons, List.flatten_nil, List.append_nil]
      cases p with
      | none => cases crossF d w <;> simp
      | some q => simp only; cases wLt q w <;> cases crossF d w <;> simp
theorem wantsF_eq (l : List Want) : wantsF l = (decide ((l.length : Int) ≤ 30) && sF [] none l) := by
  unfold wantsF
  rw [sF_eq]
  rfl
theorem sF_step {l : List Want} {k : Nat} {x : Want} (h : l[k]? = some x) : sF (l.take k) (prevO l k) (l.drop k) = (wantOkF x && (match prevO l k with | none => true | some q => wLt q x) && crossF (l.take k) x && sF (l.take (k + 1)) (prevO l (k + 1)) (l.drop (k + 1))) := by
  rw [drop_get h, prevO_succ h, sF_cons, List.take_add_one, h]
  rfl
theorem flat_le {α : Type} (m : Nat) : ∀ ls : List (List α), (∀ l ∈ ls, l.length ≤ m) → ls.flatten.length ≤ ls.length * m
  | [], _ => by simp
  | l :: r, h => by
    have h1 := h l (by simp)
    have h2 := flat_le m r (fun x hx => h x (by simp [hx]))
    rw [List.flatten_cons, List.length_append, List.length_cons, Nat.add_mul, Nat.one_mul]
    omega
def condF (p : Option Want) (s : Want) : Bool := wantOkF s && (match p with | none => true | some q => wLt q s)
/-- One element more, its cells at hand. -/
theorem list_KO1 {α : Type} {d : Ki α} {P : Program} {w w0 : World} {ops : Array Oper} {rest : List Oper} {o : Oper} {a : Act} {Q : Exit → Act → World → Prop} (hgd : o.guard = none) (s x : Operand) (t : TypeId)
    (ho : o.op = .call { callee := .builtin .append, args := #[s, x], argTypes := #[t, t] })
    (base : Nat) (e : TypeId) (i : TypeInfo) (z : Value) (bytes : Nat) (ht : P.underlying t = some (.slice e)) (hi : P.info? e = some i) (hz : i.zero = some z)
    (hsize : i.size = d.sz) (hby : i.bytes = bytes) (hzs : z.cells.size = d.sz) (hsz : 0 < d.sz)
    {xs : List α} {y : α} {v : Value} {news : List Value} (hs : a.eval s = v) (hK : KO d e w0 w base xs v) (ad : Addr) (c : Nat) (hx : a.eval x = .slice (some ad) 1 c) (hy : d.K w0 y news) (hnews : ∀ j u, news[j]? = some u → w.cell? (ad.add j) = some u)
    (h63 : xs.length + 1 ≤ maxLen) (hbytes : (xs.length + 1) * bytes ≤ 140737488355328) (hbase : base ≤ w.heap.size)
    (h : ∀ v' w', KO d e w0 w' base (xs ++ [y]) v' → w.grownBy w' v.ownBlock → wpList P ops Q rest (a.put o.dst v') w') : wpList P ops Q (o :: rest) a w := by
  obtain ⟨inner, hown, ho1, hin⟩ := hK
  have hl := d.len hy
  refine wpList_append_own _ hgd s x t ho base e i z d.sz bytes ht hi hz hsize hby hzs hsz v _ inner hs hown ad 1 c news hx (by omega) hnews (d.one hy) h63 hbytes hbase fun v' w' hown' hg _ => h v' w' ?_ hg
  exact KO.append (ys := [y]) hown' hown.1 (by simp; omega) ho1 (d.one hy) hin (fun i x hi => by
    obtain rfl : i = 0 := by have := (List.getElem?_eq_some_iff.1 hi).1; simp at this; omega
    simp at hi
    subst hi
    rw [Nat.zero_mul, List.drop_zero, List.take_of_length_le (by omega)]
    exact hy)
end Go.Proofs.Ytenldgbabcjjkaa.H
