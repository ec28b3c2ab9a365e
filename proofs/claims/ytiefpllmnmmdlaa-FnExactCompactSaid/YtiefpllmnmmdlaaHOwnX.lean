/-
Rows of the call's own, other blocks of the call's told to be none of theirs; one element's own row grows. No program in sight. Conditions: none.
-/
import Derived.Test.YtiefpllmnmmdlaaHOwn
namespace Go.Proofs.Ytiefpllmnmmdlaa.H
open Go.RowKit
set_option linter.unusedVariables false
set_option linter.unusedSimpArgs false
/-- A slice whose owner may append to it. -/
def Ki.sliceE {α : Type} (e : Nat) (d : Ki α) : Ki (List α) where
  sz := 1
  K := (Ki.slice e d).K
  T := fun w F xs cs => ∃ v, cs = [v] ∧ TS d e w F xs v ∧ Ex w e d.sz v xs.length
  len := (Ki.slice e d).len
  one := (Ki.slice e d).one
  mono := (Ki.slice e d).mono
  T_K := by
    rintro w F xs cs ⟨v, rfl, h, _⟩
    exact (Ki.slice e d).T_K ⟨v, rfl, h⟩
  T_frame := by
    rintro w w1 F x cs hf ⟨v, rfl, h, hx⟩
    refine ⟨v, rfl, TP_frame hf h, hx.move (fun k hk => hf k ?_)⟩
    obtain ⟨inner, Fs, ho, hl, hn, hp, _⟩ := h
    exact hp.mem_iff.2 (by simp [hk])
  T_lt := by
    rintro w F x cs ⟨v, rfl, h, _⟩
    exact TP_lt h
theorem TS_kind {α : Type} {d d' : Ki α} {e : Nat} (hs : d.sz = d'.sz) (hT : ∀ w F x cs, d.T w F x cs → d'.T w F x cs) {w : World} {F : List Nat} {xs : List α} {v : Value} (h : TS d e w F xs v) : TS d' e w F xs v := by
  obtain ⟨inner, Fs, h1, h2, h3, h4, h5⟩ := h
  rw [hs] at h1 h5
  refine ⟨inner, Fs, h1, h2, h3, h4, fun i x hi => ?_⟩
  obtain ⟨Fi, h6, h7⟩ := h5 i x hi
  exact ⟨Fi, h6, hT _ _ _ _ h7⟩
theorem Foc.closeX {α : Type} {d : Ki α} {e : Nat} {w : World} {F Fi Fi' : List Nat} {g n cap i : Nat} {xs : List α} {cs : List Value} {x' : α} (h : Foc d e w F Fi g n cap xs i cs) (hT : d.T w Fi' x' cs) (hnd : Fi'.Nodup) (hdis : ∀ b ∈ Fi', b ∈ Fi ∨ b ∉ F) :
    ∃ F', TS d e w F' (xs.set i x') (.slice (some ⟨g, 0, none⟩) n cap) ∧ F'.Nodup ∧ ∀ b ∈ F', b ∈ F ∨ b ∈ Fi' := by
  have hgF := h.mem
  obtain ⟨inner, Fs, ho, hl, hn, hp, hi, hF, rfl, hx⟩ := h
  have hlen : (xs.set i x').length = n := by simp [hn]
  have hil : i < Fs.length := (List.getElem?_eq_some_iff.1 hi).1
  have hnd0 := hp.nodup_iff.1 hF
  rw [List.nodup_cons] at hnd0
  have hmemF : ∀ b ∈ Fs.flatten, b ∈ F := fun b hb => hp.mem_iff.2 (List.mem_cons_of_mem _ hb)
  have key : ∀ (Gs : List (List Nat)), Gs.flatten.Nodup → ∀ j < Gs.length, (∀ b ∈ Fi', b ∈ Gs[j]?.getD [] ∨ b ∉ Gs.flatten) → (Gs.set j Fi').flatten.Nodup ∧ ∀ b ∈ (Gs.set j Fi').flatten, b ∈ Gs.flatten ∨ b ∈ Fi' := by
    intro Gs
    induction Gs with
    | nil => intro _ j hj; simp at hj
    | cons G r ih =>
      intro hGs j hj hd
      rw [List.flatten_cons, List.nodup_append] at hGs
      obtain ⟨h1, h2, h3⟩ := hGs
      cases j with
      | zero =>
        simp only [List.set_cons_zero, List.flatten_cons, List.getElem?_cons_zero, Option.getD_some] at hd ⊢
        refine ⟨List.nodup_append.2 ⟨hnd, h2, fun a ha b hb e => ?_⟩, fun b hb => ?_⟩
        · subst e
          rcases hd a ha with hh | hh
          · exact h3 a hh a hb rfl
          · exact hh (List.mem_append_right _ hb)
        · rcases List.mem_append.1 hb with hb | hb
          · exact .inr hb
          · exact .inl (List.mem_append_right _ hb)
      | succ j =>
        simp only [List.set_cons_succ, List.flatten_cons, List.getElem?_cons_succ] at hd ⊢
        obtain ⟨k1, k2⟩ := ih h2 j (by simpa using hj) (fun b hb => by
          rcases hd b hb with hh | hh
          · exact .inl hh
          · exact .inr (fun h => hh (List.mem_append_right _ h)))
        refine ⟨List.nodup_append.2 ⟨h1, k1, fun a ha b hb e => ?_⟩, fun b hb => ?_⟩
        · subst e
          rcases k2 a hb with hh | hh
          · exact h3 a ha a hh rfl
          · rcases hd a hh with hq | hq
            · have hjl : j < r.length := by simpa using hj
              rw [List.getElem?_eq_getElem hjl, Option.getD_some] at hq
              exact h3 a ha a (List.mem_flatten.2 ⟨_, List.getElem_mem hjl, hq⟩) rfl
            · exact hq (List.mem_append_left _ ha)
        · rcases List.mem_append.1 hb with hb | hb
          · exact .inl (List.mem_append_left _ hb)
          · rcases k2 b hb with hh | hh
            · exact .inl (List.mem_append_right _ hh)
            · exact .inr hh
  obtain ⟨k1, k2⟩ := key Fs hnd0.2 i hil (fun b hb => by
    rw [hi, Option.getD_some]
    rcases hdis b hb with hh | hh
    · exact .inl hh
    · exact .inr (fun hq => hh (hmemF b hq)))
  refine ⟨g :: (Fs.set i Fi').flatten, ?_, ?_, ?_⟩
  · unfold TS
    rw [hlen]
    refine ⟨inner, Fs.set i Fi', ho, by simp; omega, by omega, by simp [Value.ownBlock], fun k x hk => ?_⟩
    by_cases e1 : k = i
    · subst e1
      rw [List.getElem?_set_self (by omega)] at hk
      cases hk
      exact ⟨Fi', by rw [List.getElem?_set_self hil], hT⟩
    · rw [List.getElem?_set_ne (fun h => e1 h.symm)] at hk
      obtain ⟨Fj, h1, h2⟩ := hx k x e1 hk
      exact ⟨Fj, by rw [List.getElem?_set_ne (fun h => e1 h.symm)]; exact h1, h2⟩
  · rw [List.nodup_cons]
    refine ⟨fun hh => ?_, k1⟩
    rcases k2 g hh with hq | hq
    · exact hnd0.1 hq
    · rcases hdis g hq with h1 | h1
      · exact hgF.2.1 h1
      · exact h1 hgF.1
  · intro b hb
    rcases List.mem_cons.1 hb with rfl | hb
    · exact .inl hgF.1
    · rcases k2 b hb with hq | hq
      · exact .inl (hmemF b hq)
      · exact .inr hq
/-- Below B; and the blocks of X stand. -/
structure Bx (B : Nat) (X : List Nat) (w w' : World) : Prop where
  bel : Below B w w'
  xs : ∀ k ∈ X, k < w.heap.size → w'.heap[k]? = w.heap[k]?
theorem Bx.refl (B : Nat) (X : List Nat) (w : World) : Bx B X w w := ⟨Below.refl _ _, fun _ _ _ => rfl⟩
theorem Bx.trans {B : Nat} {X : List Nat} {a b c : World} (h : Bx B X a b) (k : Bx B X b c) : Bx B X a c := ⟨h.bel.trans k.bel, fun j hj hl => (k.xs j hj (Nat.lt_of_lt_of_le hl h.bel.size)).trans (h.xs j hj hl)⟩
theorem Bx.of {B : Nat} {X : List Nat} {w w' : World} (h : Below w.heap.size w w') (hB : B ≤ w.heap.size) : Bx B X w w' := ⟨h.mono hB, fun k _ hl => h.block k hl⟩
theorem Bx.setCell {B : Nat} {X : List Nat} {w w' : World} (h : Bx B X w w') {g : Nat} (hg : B ≤ g) (hX : g ∉ X) (j : Nat) (u : Value) : Bx B X w (w'.setCell ⟨g, j, none⟩ u) :=
  ⟨h.bel.setCell (p := ⟨g, j, none⟩) hg u, fun k hk hl => (Below.heap_setCell w' ⟨g, j, none⟩ u k (fun (e : k = g) => hX (e ▸ hk))).trans (h.xs k hk hl)⟩
theorem Bx.less {B : Nat} {X X' : List Nat} {w w' : World} (h : Bx B X w w') (hX : ∀ x ∈ X', x ∈ X) : Bx B X' w w' := ⟨h.bel, fun k hk => h.xs k (hX k hk)⟩
theorem Blk.bx {B : Nat} {X : List Nat} {w w' : World} {g : Nat} {cs : Array Value} {t : TypeId} (h : Blk w g cs t) (hb : Bx B X w w') (hg : g < B ∨ g ∈ X) : Blk w' g cs t := by
  rcases hg with hg | hg
  · exact (hb.bel.block g hg).trans h
  · exact (hb.xs g hg h.lt).trans h
/-- A row of the call's own, in blocks from B on, none of them one of X. -/
def OwnX {α : Type} (d : Ki α) (e B : Nat) (X : List Nat) (w : World) (xs : List α) (v : Value) : Prop := ∃ F, TS d e w F xs v ∧ F.Nodup ∧ (∀ b ∈ F, B ≤ b ∧ b ∉ X) ∧ Ex w e d.sz v xs.length
section
variable {α : Type} {d : Ki α} {e B : Nat} {X : List Nat} {w w1 : World} {xs : List α} {v : Value}
theorem OwnX.toR (h : OwnX d e B X w xs v) : OwnR d e B w xs v := by
  obtain ⟨F, h1, h2, h3, h4⟩ := h
  exact ⟨F, h1, h2, fun b hb => (h3 b hb).1, h4⟩
theorem OwnX.of (h : OwnR d e B w xs v) (hb : Below w.heap.size w w1) (hX : ∀ x ∈ X, w.heap.size ≤ x) : OwnX d e B X w1 xs v := by
  obtain ⟨F, h1, h2, h3, h4⟩ := h
  exact ⟨F, TS_below h1 hb, h2, fun b hb' => ⟨h3 b hb', fun hx => by have := hX b hx; have := TS_lt h1 b hb'; omega⟩, h4.below hb⟩
theorem OwnX.below (h : OwnX d e B X w xs v) (hb : Below w.heap.size w w1) : OwnX d e B X w1 xs v := by
  obtain ⟨F, h1, h2, h3, h4⟩ := h
  exact ⟨F, TS_below h1 hb, h2, h3, h4.below hb⟩
theorem OwnX.setc (h : OwnX d e B X w xs v) (g j : Nat) (u : Value) (hg : g < B ∨ g ∈ X) : OwnX d e B X (w.setCell ⟨g, j, none⟩ u) xs v := by
  have hbk : ∀ k, v.ownBlock = some k → k ≠ g := fun k hk e => by
    obtain ⟨F, h1, h2, h3, h4⟩ := h
    obtain ⟨inner, Fs, ho, hl, hn, hp, hx⟩ := h1
    have := h3 k (hp.mem_iff.2 (by simp [hk]))
    subst e
    rcases hg with hg | hg
    · omega
    · exact this.2 hg
  obtain ⟨F, h1, h2, h3, h4⟩ := h
  refine ⟨F, TS_setn h1 (fun hh => ?_), h2, h3, h4.move (fun k hk => Below.heap_setCell w ⟨g, j, none⟩ u k (by simpa using hbk k hk))⟩
  have := h3 g hh
  rcases hg with hg | hg
  · omega
  · exact this.2 hg
theorem OwnX.more {g : Nat} (h : OwnX d e B X w xs v) (hb : Below w.heap.size w w1) (hg : w.heap.size ≤ g) : OwnX d e B (g :: X) w1 xs v := by
  obtain ⟨F, h1, h2, h3, h4⟩ := h
  refine ⟨F, TS_below h1 hb, h2, fun b hb' => ⟨(h3 b hb').1, fun hx => ?_⟩, h4.below hb⟩
  rcases List.mem_cons.1 hx with hx | hx
  · have := TS_lt h1 b hb'; omega
  · exact (h3 b hb').2 hx
theorem OwnX.less {X' : List Nat} (h : OwnX d e B X w xs v) (hX : ∀ x ∈ X', x ∈ X) : OwnX d e B X' w xs v := by
  obtain ⟨F, h1, h2, h3, h4⟩ := h
  exact ⟨F, h1, h2, fun b hb => ⟨(h3 b hb).1, fun hx => (h3 b hb).2 (hX b hx)⟩, h4⟩
theorem OwnX.slice (h : OwnX d e B X w xs v) : ∃ A c, v = .slice A xs.length c ∧ xs.length ≤ c ∧ c ≤ maxLen := h.toR.slice
end
theorem Ex.stored {w : World} {e sz g n c : Nat} (h : Ex w e sz (.slice (some ⟨g, 0, none⟩) n c) n) (j : Nat) (u : Value) : Ex (w.setCell ⟨g, j, none⟩ u) e sz (.slice (some ⟨g, 0, none⟩) n c) n := by
  obtain ⟨inner, h⟩ := h
  exact ⟨_, (setCells_own [u] w inner j h).1⟩
/-- 'append(s, y)', y's blocks newer than s's and than X. -/
theorem list_elX {α : Type} {d : Ki α} {P : Program} {wo w : World} {B e : Nat} {X : List Nat} {ops : Array Oper} {rest : List Oper} {o : Oper} {a : Act} {Q : Exit → Act → World → Prop} {z : Value} {bytes : Nat} (hI : (P.info? e).map (fun i => (i.zero, i.size, i.bytes)) = some (some z, d.sz, bytes)) (hzs : z.cells.size = d.sz) (hsz : 0 < d.sz) (hb2 : bytes ≤ 1000)
    (hgd : o.guard = none) (s x : Operand) (t : TypeId) (ho : o.op = .call { callee := .builtin .append, args := #[s, x], argTypes := #[t, t] }) (ht : P.underlying t = some (.slice e))
    {xs : List α} {y : α} {v : Value} {Fx : List Nat} {cs : Array Value} (hs : a.eval s = v) (hO : OwnX d e B X wo xs v) (hb : Below wo.heap.size wo w) (hB : B ≤ wo.heap.size) (hX : ∀ x ∈ X, x < wo.heap.size) (g c : Nat) (hx : a.eval x = .slice (some ⟨g, 0, none⟩) 1 c)
    (hT : d.T w Fx y cs.toList) (hc : Box w g cs) (hF : Fresh wo Fx) (hn : xs.length ≤ 1048576)
    (h : ∀ A c w', OwnX d e B X w' (xs ++ [y]) (.slice A (xs.length + 1) c) → Bx B X w w' → wpList P ops Q rest (a.put o.dst (.slice A (xs.length + 1) c)) w') : wpList P ops Q (o :: rest) a w := by
  have hsw := hb.size
  obtain ⟨F, h1, h2, h3, hEx⟩ := hO
  obtain ⟨i0, hi, hz0, hz1, hz2⟩ := info_parts hI
  have hlt := TS_lt h1
  have h1' := TS_below h1 hb
  have hEx' := hEx.below hb
  obtain ⟨inner, Fs, hownL, hl, _, hp, hxx⟩ := h1'
  have hown := hEx'.row hownL hsz
  have hlen := d.len (d.T_K hT)
  refine wpList_append_own_at _ hgd s x t ho 0 e i0 z d.sz bytes ht hi hz0 hz1 hz2 hzs hsz v _ inner hs hown ⟨g, 0, none⟩ 1 c cs.toList hx (by omega) (fun j u hj => ?_) (d.one (d.T_K hT)) (by simp only [maxLen]; omega) (Nat.le_trans (Nat.mul_le_mul (by omega : _ ≤ 1048577) hb2) (by decide)) (Nat.zero_le _) fun v' w' hown' hgr _ hat => ?_
  · have hcj := hc j u (by simpa using hj)
    by_cases e0 : j = 0
    · subst e0; exact hcj
    · simpa [Addr.add, e0] using hcj
  · obtain ⟨F', k1, k2, k3, k4⟩ := TS_appF hown hl hp (List.nodup_append.2 ⟨h2, hF.1, fun p hp q hq => by have := hlt p hp; have := hF.2 q hq; omega⟩) hxx hT hown' hgr hat
    have hO' : OwnX d e B X w' (xs ++ [y]) v' := ⟨F', k1, k2, fun b hb' => by
      rcases k3 b hb' with h | h | h
      · exact h3 b h
      · exact ⟨by have := hF.2 b h; omega, fun hx => by have := hX b hx; have := hF.2 b h; omega⟩
      · exact ⟨by omega, fun hx => by have := hX b hx; omega⟩, Ex.of (base := 0) (by simpa using hown')⟩
    have hbx : Bx B X w w' := ⟨k4.below (fun b hb' => (h3 b hb').1) (by omega), fun k hk hl => k4.block k hl (fun hf => (h3 k hf).2 hk)⟩
    obtain ⟨A, c, rfl, _⟩ := hO'.slice
    simp only [List.length_append, List.length_singleton] at hO' ⊢
    exact h A c w' hO' hbx
end Go.Proofs.Ytiefpllmnmmdlaa.H
