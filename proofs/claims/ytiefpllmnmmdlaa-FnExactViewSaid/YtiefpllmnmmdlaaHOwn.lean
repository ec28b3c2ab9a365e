/-
Rows of the call's own that grow: append of one element. Variables in memory, their whole blocks. No program in sight. Conditions: none.
-/
import Derived.Test.YtiefpllmnmmdlaaHMark
import Derived.Deep.AppendLies
namespace Go.Proofs.Ytiefpllmnmmdlaa.H
open Go.RowKit
set_option linter.unusedVariables false
/-- A variable's block, whole. -/
def Blk (w : World) (g : Nat) (cs : Array Value) (t : TypeId) : Prop := w.heap[g]? = some (.cells cs t (0, 0))
theorem Blk.new (w : World) (cs : Array Value) (t : TypeId) : Blk (w.alloc (.cells cs t)) w.heap.size cs t := heap_alloc_new w _
theorem Blk.lt {w : World} {g : Nat} {cs : Array Value} {t : TypeId} (h : Blk w g cs t) : g < w.heap.size := (Array.getElem?_eq_some_iff.1 h).1
theorem Blk.cell {w : World} {g : Nat} {cs : Array Value} {t : TypeId} (h : Blk w g cs t) (j : Nat) (u : Value) (hu : cs[j]? = some u) : w.cell? ⟨g, j, none⟩ = some u := by
  unfold Blk at h
  simp [World.cell?, h, hu]
theorem Blk.frz {w : World} {g : Nat} {cs : Array Value} {t : TypeId} (h : Blk w g cs t) (j : Nat) : w.frozen? ⟨g, j, none⟩ = false := by
  unfold Blk at h
  simp [World.frozen?, h]
theorem Blk.set {w : World} {g : Nat} {cs : Array Value} {t : TypeId} (h : Blk w g cs t) (j : Nat) (u : Value) : Blk (w.setCell ⟨g, j, none⟩ u) g (cs.setIfInBounds j u) t := heap_setCell_same w g j cs t u h
theorem Blk.far {w : World} {g : Nat} {cs : Array Value} {t : TypeId} (h : Blk w g cs t) (g' j : Nat) (u : Value) (hg : g ≠ g') : Blk (w.setCell ⟨g', j, none⟩ u) g cs t := (Below.heap_setCell w ⟨g', j, none⟩ u g hg).trans h
theorem Blk.below {w w1 : World} {g : Nat} {cs : Array Value} {t : TypeId} (h : Blk w g cs t) (hb : Below w.heap.size w w1) : Blk w1 g cs t := (hb.block g h.lt).trans h
theorem Blk.grown {w w1 : World} {g : Nat} {cs : Array Value} {t : TypeId} {row : Option Nat} (h : Blk w g cs t) (hg : w.grownBy w1 row) (hr : row ≠ some g) : Blk w1 g cs t := (hg.block g h.lt (fun e => hr e.symm)).trans h
/-- A row of the call's own, in blocks from B on. -/
def OwnR {α : Type} (d : Ki α) (e B : Nat) (w : World) (xs : List α) (v : Value) : Prop := ∃ F, TS d e w F xs v ∧ F.Nodup ∧ (∀ b ∈ F, B ≤ b) ∧ Ex w e d.sz v xs.length
/-- The same, the cap perhaps lesser than the block's: nothing is appended to it any more. -/
def OwnT {α : Type} (d : Ki α) (e B : Nat) (w : World) (xs : List α) (v : Value) : Prop := ∃ F, TS d e w F xs v ∧ F.Nodup ∧ ∀ b ∈ F, B ≤ b
section
variable {α : Type} {d : Ki α} {e B : Nat} {w w1 : World} {xs : List α} {v : Value}
theorem OwnR.toT (h : OwnR d e B w xs v) : OwnT d e B w xs v := by
  obtain ⟨F, h1, h2, h3, _⟩ := h
  exact ⟨F, h1, h2, h3⟩
theorem OwnT.nil : OwnT d e B w [] (.slice none 0 0) := ⟨[], TS_nil, List.nodup_nil, by simp⟩
theorem OwnT.below (h : OwnT d e B w xs v) (hb : Below w.heap.size w w1) : OwnT d e B w1 xs v := by
  obtain ⟨F, h1, h2, h3⟩ := h
  exact ⟨F, TS_below h1 hb, h2, h3⟩
theorem OwnT.setc (h : OwnT d e B w xs v) (g j : Nat) (u : Value) (hg : g < B) : OwnT d e B (w.setCell ⟨g, j, none⟩ u) xs v := by
  obtain ⟨F, h1, h2, h3⟩ := h
  exact ⟨F, TS_setn h1 (fun hh => by have := h3 g hh; omega), h2, h3⟩
theorem OwnT.fresh {w0 : World} (h : OwnT d e w0.heap.size w xs v) : ∃ F, TS d e w F xs v ∧ Fresh w0 F := by
  obtain ⟨F, h1, h2, h3⟩ := h
  exact ⟨F, h1, h2, h3⟩
theorem OwnT.mono {B' : Nat} (h : OwnT d e B w xs v) (hB : B' ≤ B) : OwnT d e B' w xs v := by
  obtain ⟨F, h1, h2, h3⟩ := h
  exact ⟨F, h1, h2, fun b hb => Nat.le_trans hB (h3 b hb)⟩
theorem OwnR.nil : OwnR d e B w [] (.slice none 0 0) := ⟨[], TS_nil, List.nodup_nil, by simp, Ex.nil⟩
theorem OwnR.below (h : OwnR d e B w xs v) (hb : Below w.heap.size w w1) : OwnR d e B w1 xs v := by
  obtain ⟨F, h1, h2, h3, h4⟩ := h
  exact ⟨F, TS_below h1 hb, h2, h3, h4.below hb⟩
theorem OwnR.blk (h : OwnR d e B w xs v) : ∀ k, v.ownBlock = some k → B ≤ k := by
  obtain ⟨F, h1, h2, h3, _⟩ := h
  obtain ⟨inner, Fs, ho, hl, hn, hp, hx⟩ := h1
  intro k hk
  exact h3 k (hp.mem_iff.2 (by simp [hk]))
theorem OwnR.setc (h : OwnR d e B w xs v) (g j : Nat) (u : Value) (hg : g < B) : OwnR d e B (w.setCell ⟨g, j, none⟩ u) xs v := by
  have hbk := h.blk
  obtain ⟨F, h1, h2, h3, h4⟩ := h
  exact ⟨F, TS_setn h1 (fun hh => by have := h3 g hh; omega), h2, h3, h4.move (fun k hk => Below.heap_setCell w ⟨g, j, none⟩ u k (by have := hbk k hk; simp; omega))⟩
theorem OwnR.fresh {w0 : World} (h : OwnR d e w0.heap.size w xs v) : ∃ F, TS d e w F xs v ∧ Fresh w0 F := by
  obtain ⟨F, h1, h2, h3, _⟩ := h
  exact ⟨F, h1, h2, h3⟩
theorem OwnR.mono {B' : Nat} (h : OwnR d e B w xs v) (hB : B' ≤ B) : OwnR d e B' w xs v := by
  obtain ⟨F, h1, h2, h3, h4⟩ := h
  exact ⟨F, h1, h2, fun b hb => Nat.le_trans hB (h3 b hb), h4⟩
theorem OwnR.slice (h : OwnR d e B w xs v) : ∃ A c, v = .slice A xs.length c ∧ xs.length ≤ c ∧ c ≤ maxLen := by
  obtain ⟨F, h1, h2, h3, _⟩ := h
  obtain ⟨A, c, e, hc, hm, _⟩ := TS_read h1
  exact ⟨A, c, e, hc, hm⟩
/-- One element more. -/
theorem TS_appF {F Fx : List Nat} {y : α} {v' : Value} {inner news : List Value} {Fs : List (List Nat)} (ho : w.ownsRow 0 e d.sz v xs.length inner) (hl : Fs.length = xs.length) (hp : F.Perm (v.ownBlock.toList ++ Fs.flatten)) (hF : (F ++ Fx).Nodup)
    (hx : ∀ i x, xs[i]? = some x → ∃ Fi, Fs[i]? = some Fi ∧ d.T w Fi x ((inner.drop (i * d.sz)).take d.sz)) (hT : d.T w Fx y news)
    (ho' : w1.ownsRow 0 e d.sz v' (xs.length + 1) (inner ++ news)) (hgr : w.grownBy w1 v.ownBlock) (hown : v'.ownBlock = v.ownBlock ∨ v'.ownBlock = some w.heap.size) : ∃ F', TS d e w1 F' (xs ++ [y]) v' ∧ F'.Nodup ∧ (∀ b ∈ F', b ∈ F ∨ b ∈ Fx ∨ b = w.heap.size) ∧ Upd F w w1 := by
  have hlen := d.len (d.T_K hT)
  have hil := ho.1
  have hndF := List.nodup_append.1 hF
  have hnd2 := hp.nodup_iff.1 hndF.1
  have hltF : ∀ b ∈ Fs.flatten, b < w.heap.size := by
    intro b hb
    obtain ⟨Fi, hi, hb⟩ := List.mem_flatten.1 hb
    obtain ⟨i, hlt, rfl⟩ := List.getElem_of_mem hi
    obtain ⟨Fj, h1, h2⟩ := hx i _ (List.getElem?_eq_getElem (by omega))
    rw [List.getElem?_eq_getElem hlt] at h1
    cases h1
    exact d.T_lt h2 b hb
  have hfr : ∀ b, b < w.heap.size → (b ∈ Fs.flatten ∨ b ∈ Fx) → w1.heap[b]? = w.heap[b]? := by
    intro b hlt hb
    refine hgr.block b hlt (fun hh => ?_)
    rcases hb with hb | hb
    · exact (List.nodup_append.1 hnd2).2.2 b (by simp [← hh]) b hb rfl
    · exact hndF.2.2 b (hp.mem_iff.2 (by simp [← hh])) b hb rfl
  refine ⟨v'.ownBlock.toList ++ (Fs ++ [Fx]).flatten, ⟨inner ++ news, Fs ++ [Fx], ownsL_of (base := 0) (by simpa using ho'), by simp [hl], by simp, List.Perm.refl _, fun i x hi => ?_⟩, ?_, ?_, ?_⟩
  · by_cases hlt : i < xs.length
    · rw [List.getElem?_append_left hlt] at hi
      obtain ⟨Fi, h1, h2⟩ := hx i x hi
      refine ⟨Fi, by rw [List.getElem?_append_left (by omega)]; exact h1, ?_⟩
      have : (i + 1) * d.sz ≤ xs.length * d.sz := Nat.mul_le_mul_right _ hlt
      rw [Nat.add_mul, Nat.one_mul] at this
      rw [List.drop_append_of_le_length (by omega), List.take_append_of_le_length (by simp; omega)]
      exact d.T_frame (fun b hb => hfr b (d.T_lt h2 b hb) (.inl (List.mem_flatten.2 ⟨Fi, List.mem_of_getElem? h1, hb⟩))) h2
    · have hie : i = xs.length := by have := (List.getElem?_eq_some_iff.1 hi).1; simp at this; omega
      subst hie
      simp at hi
      subst hi
      refine ⟨Fx, by rw [← hl]; simp, ?_⟩
      rw [← hil, List.drop_append, List.drop_eq_nil_of_le (Nat.le_refl _), List.nil_append, Nat.sub_self, List.drop_zero, List.take_of_length_le (by omega)]
      exact d.T_frame (fun b hb => hfr b (d.T_lt hT b hb) (.inr hb)) hT
  · simp only [List.flatten_append, List.flatten_cons, List.flatten_nil, List.append_nil]
    rcases hown with h | h
    · rw [h, ← List.append_assoc]
      exact ((hp.append_right Fx).nodup_iff).1 hF
    · rw [h]
      refine List.nodup_append.2 ⟨by simp, List.nodup_append.2 ⟨(List.nodup_append.1 hnd2).2.1, hndF.2.1, fun a ha b hb => hndF.2.2 a (hp.mem_iff.2 (List.mem_append_right _ ha)) b hb⟩, fun a ha b hb => ?_⟩
      have ha' : a = w.heap.size := by simpa using ha
      rcases List.mem_append.1 hb with hb | hb
      · have := hltF b hb; omega
      · have := d.T_lt hT b hb; omega
  · intro b hb
    simp only [List.flatten_append, List.flatten_cons, List.flatten_nil, List.append_nil, List.mem_append] at hb
    rcases hb with hb | hb | hb
    · rcases hown with h | h
      · exact .inl (hp.mem_iff.2 (List.mem_append_left _ (by rw [← h]; exact hb)))
      · rw [h] at hb
        exact .inr (.inr (by simpa using hb))
    · exact .inl (hp.mem_iff.2 (List.mem_append_right _ hb))
    · exact .inr (.inl hb)
  · exact ⟨hgr.os, hgr.tape, hgr.output, hgr.size, fun k hk hkF => hgr.block k hk (fun hh => hkF (hp.mem_iff.2 (by simp [← hh])))⟩
theorem TS_app {F Fx : List Nat} {y : α} {v' : Value} {inner news : List Value} {Fs : List (List Nat)} (ho : w.ownsRow 0 e d.sz v xs.length inner) (hl : Fs.length = xs.length) (hp : F.Perm (v.ownBlock.toList ++ Fs.flatten)) (hF : (F ++ Fx).Nodup) (hB : ∀ b ∈ F ++ Fx, B ≤ b) (hBw : B ≤ w.heap.size)
    (hx : ∀ i x, xs[i]? = some x → ∃ Fi, Fs[i]? = some Fi ∧ d.T w Fi x ((inner.drop (i * d.sz)).take d.sz)) (hT : d.T w Fx y news)
    (ho' : w1.ownsRow 0 e d.sz v' (xs.length + 1) (inner ++ news)) (hgr : w.grownBy w1 v.ownBlock) (hown : v'.ownBlock = v.ownBlock ∨ v'.ownBlock = some w.heap.size) : OwnR d e B w1 (xs ++ [y]) v' := by
  obtain ⟨F', h1, h2, h3, _⟩ := TS_appF ho hl hp hF hx hT ho' hgr hown
  refine ⟨F', h1, h2, fun b hb => ?_, Ex.of (base := 0) (by simpa using ho')⟩
  rcases h3 b hb with h | h | h
  · exact hB b (List.mem_append_left _ h)
  · exact hB b (List.mem_append_right _ h)
  · omega
end
/-- 'append(s, y)', s the call's own. -/
theorem app_OwnR {α : Type} {d : Ki α} {P : Program} {w : World} {B : Nat} {ops : Array Oper} {rest : List Oper} {o : Oper} {a : Act} {Q : Exit → Act → World → Prop} (hgd : o.guard = none) (s x : Operand) (t : TypeId)
    (ho : o.op = .call { callee := .builtin .append, args := #[s, x], argTypes := #[t, t] })
    (e : TypeId) (i : TypeInfo) (z : Value) (bytes : Nat) (ht : P.underlying t = some (.slice e)) (hi : P.info? e = some i) (hz : i.zero = some z)
    (hsize : i.size = d.sz) (hby : i.bytes = bytes) (hzs : z.cells.size = d.sz) (hsz : 0 < d.sz)
    {xs : List α} {y : α} {v : Value} {F Fx : List Nat} {news : List Value} (hs : a.eval s = v) (hTS : TS d e w F xs v) (hEx : Ex w e d.sz v xs.length) (ad : Addr) (c : Nat) (hx : a.eval x = .slice (some ad) 1 c)
    (hT : d.T w Fx y news) (hnews : ∀ j u, news[j]? = some u → w.cell? (ad.add j) = some u) (hF : (F ++ Fx).Nodup) (hB : ∀ b ∈ F ++ Fx, B ≤ b) (hBw : B ≤ w.heap.size)
    (hn : xs.length + 1 ≤ 1048577) (hb2 : bytes ≤ 1000)
    (h : ∀ v' w', OwnR d e B w' (xs ++ [y]) v' → w.grownBy w' v.ownBlock → wpList P ops Q rest (a.put o.dst v') w') : wpList P ops Q (o :: rest) a w := by
  obtain ⟨inner, Fs, hownL, hl, _, hp, hxx⟩ := hTS
  have hown := hEx.row hownL hsz
  have hlen := d.len (d.T_K hT)
  refine wpList_append_own_at _ hgd s x t ho 0 e i z d.sz bytes ht hi hz hsize hby hzs hsz v _ inner hs hown ad 1 c news hx (by omega) hnews (d.one (d.T_K hT)) (by simp only [maxLen]; omega) (Nat.le_trans (Nat.mul_le_mul hn hb2) (by decide)) (Nat.zero_le _) fun v' w' hown' hgr _ hat => h v' w' ?_ hgr
  exact TS_app hown hl hp hF hB hBw hxx hT hown' hgr hat
/-- The same at a step of a region that draws its order. -/
theorem step_OwnR {α : Type} {d : Ki α} {P : Program} {w : World} {B : Nat} {ops : Array Oper} {o : Oper} {a : Act} {K : Act → World → Prop} {Q : Exit → Act → World → Prop} {E : Prop} (hgd : o.guard = none) (s x : Operand) (t : TypeId)
    (ho : o.op = .call { callee := .builtin .append, args := #[s, x], argTypes := #[t, t] })
    (e : TypeId) (i : TypeInfo) (z : Value) (bytes : Nat) (ht : P.underlying t = some (.slice e)) (hi : P.info? e = some i) (hz : i.zero = some z)
    (hsize : i.size = d.sz) (hby : i.bytes = bytes) (hzs : z.cells.size = d.sz) (hsz : 0 < d.sz)
    {xs : List α} {y : α} {v : Value} {F Fx : List Nat} {news : List Value} (hs : a.eval s = v) (hTS : TS d e w F xs v) (hEx : Ex w e d.sz v xs.length) (ad : Addr) (c : Nat) (hx : a.eval x = .slice (some ad) 1 c)
    (hT : d.T w Fx y news) (hnews : ∀ j u, news[j]? = some u → w.cell? (ad.add j) = some u) (hF : (F ++ Fx).Nodup) (hB : ∀ b ∈ F ++ Fx, B ≤ b) (hBw : B ≤ w.heap.size)
    (hn : xs.length + 1 ≤ 1048577) (hb2 : bytes ≤ 1000)
    (h : ∀ g cap w', OwnR d e B w' (xs ++ [y]) (.slice (some ⟨g, 0, none⟩) (xs.length + 1) cap) → w.grownBy w' v.ownBlock → K (a.put o.dst (.slice (some ⟨g, 0, none⟩) (xs.length + 1) cap)) w') :
    if Region.wanted o (yielded ops a.tmps) = true then Oper.wp P o a w K Q else E := by
  obtain ⟨inner, Fs, hownL, hl, _, hp, hxx⟩ := hTS
  have hown := hEx.row hownL hsz
  have hlen := d.len (d.T_K hT)
  refine step_append_lies w hgd s x t ho 0 e i z d.sz bytes ht hi hz hsize hby hzs hsz v _ inner hs hown ad 1 c news hx (by omega) hnews (d.one (d.T_K hT)) (by omega) (by simp only [maxLen]; omega) (Nat.le_trans (Nat.mul_le_mul hn hb2) (by decide)) (Nat.zero_le _) w.heap.size rfl fun g cap w' hown' hgr hat _ => h g cap w' ?_ hgr
  refine TS_app hown hl hp hF hB hBw hxx hT hown' hgr ?_
  rcases hat with h | h
  · exact .inl (by rw [h]; rfl)
  · exact .inr (by rw [h]; rfl)
/-- A call of a Go function by its contract, at a step of a region that draws its order. -/
theorem step_call {P : Program} {ops : Array Oper} {o : Oper} {a : Act} {w : World} {K : Act → World → Prop} {Q : Exit → Act → World → Prop} {E : Prop} (hgd : o.guard = none) (f : FuncId) (args : Array Value)
    (he : (execOp a.eval o).run P w = .ok (.enter f args) w) {v : Value} {R : World → Prop} (hC : Calls P f args w fun e w' => e = .returned v ∧ R w') (h : ∀ w', R w' → K (a.put o.dst v) w') :
    if Region.wanted o (yielded ops a.tmps) = true then Oper.wp P o a w K Q else E := by
  have hw : Region.wanted o (yielded ops a.tmps) = true := by simp [Region.wanted, hgd]
  rw [if_pos hw]
  unfold Oper.wp
  rw [he]
  exact hC.mono (by rintro e w' ⟨rfl, hR⟩; exact h w' hR)
/-- The same, the blocks told. -/
theorem app_TSF {α : Type} {d : Ki α} {P : Program} {w : World} {ops : Array Oper} {rest : List Oper} {o : Oper} {a : Act} {Q : Exit → Act → World → Prop} (hgd : o.guard = none) (s x : Operand) (t : TypeId)
    (ho : o.op = .call { callee := .builtin .append, args := #[s, x], argTypes := #[t, t] })
    (e : TypeId) (i : TypeInfo) (z : Value) (bytes : Nat) (ht : P.underlying t = some (.slice e)) (hi : P.info? e = some i) (hz : i.zero = some z)
    (hsize : i.size = d.sz) (hby : i.bytes = bytes) (hzs : z.cells.size = d.sz) (hsz : 0 < d.sz)
    {xs : List α} {y : α} {v : Value} {F Fx : List Nat} {news : List Value} (hs : a.eval s = v) (hTS : TS d e w F xs v) (hEx : Ex w e d.sz v xs.length) (ad : Addr) (c : Nat) (hx : a.eval x = .slice (some ad) 1 c)
    (hT : d.T w Fx y news) (hnews : ∀ j u, news[j]? = some u → w.cell? (ad.add j) = some u) (hF : (F ++ Fx).Nodup)
    (hn : xs.length + 1 ≤ 1048577) (hb2 : bytes ≤ 1000)
    (h : ∀ A cap w' F', TS d e w' F' (xs ++ [y]) (.slice A (xs.length + 1) cap) → F'.Nodup → (∀ b ∈ F', b ∈ F ∨ b ∈ Fx ∨ b = w.heap.size) → Upd F w w' → wpList P ops Q rest (a.put o.dst (.slice A (xs.length + 1) cap)) w') : wpList P ops Q (o :: rest) a w := by
  obtain ⟨inner, Fs, hownL, hl, _, hp, hxx⟩ := hTS
  have hown := hEx.row hownL hsz
  have hlen := d.len (d.T_K hT)
  refine wpList_append_own_at _ hgd s x t ho 0 e i z d.sz bytes ht hi hz hsize hby hzs hsz v _ inner hs hown ad 1 c news hx (by omega) hnews (d.one (d.T_K hT)) (by simp only [maxLen]; omega) (Nat.le_trans (Nat.mul_le_mul hn hb2) (by decide)) (Nat.zero_le _) fun v' w' hown' hgr _ hat => ?_
  obtain ⟨F', h1, h2, h3, h4⟩ := TS_appF hown hl hp hF hxx hT hown' hgr hat
  obtain ⟨A, cap, rfl, _⟩ := TS_read h1
  have hl2 : (xs ++ [y]).length = xs.length + 1 := by simp
  rw [hl2] at h1 ⊢
  exact h A cap w' F' h1 h2 h3 h4
theorem step_TSF {α : Type} {d : Ki α} {P : Program} {w : World} {ops : Array Oper} {o : Oper} {a : Act} {K : Act → World → Prop} {Q : Exit → Act → World → Prop} {E : Prop} (hgd : o.guard = none) (s x : Operand) (t : TypeId)
    (ho : o.op = .call { callee := .builtin .append, args := #[s, x], argTypes := #[t, t] })
    (e : TypeId) (i : TypeInfo) (z : Value) (bytes : Nat) (ht : P.underlying t = some (.slice e)) (hi : P.info? e = some i) (hz : i.zero = some z)
    (hsize : i.size = d.sz) (hby : i.bytes = bytes) (hzs : z.cells.size = d.sz) (hsz : 0 < d.sz)
    {xs : List α} {y : α} {v : Value} {F Fx : List Nat} {news : List Value} (hs : a.eval s = v) (hTS : TS d e w F xs v) (hEx : Ex w e d.sz v xs.length) (ad : Addr) (c : Nat) (hx : a.eval x = .slice (some ad) 1 c)
    (hT : d.T w Fx y news) (hnews : ∀ j u, news[j]? = some u → w.cell? (ad.add j) = some u) (hF : (F ++ Fx).Nodup)
    (hn : xs.length + 1 ≤ 1048577) (hb2 : bytes ≤ 1000)
    (h : ∀ A cap w' F', TS d e w' F' (xs ++ [y]) (.slice A (xs.length + 1) cap) → F'.Nodup → (∀ b ∈ F', b ∈ F ∨ b ∈ Fx ∨ b = w.heap.size) → Upd F w w' → K (a.put o.dst (.slice A (xs.length + 1) cap)) w') :
    if Region.wanted o (yielded ops a.tmps) = true then Oper.wp P o a w K Q else E := by
  obtain ⟨inner, Fs, hownL, hl, _, hp, hxx⟩ := hTS
  have hown := hEx.row hownL hsz
  have hlen := d.len (d.T_K hT)
  refine step_append_lies w hgd s x t ho 0 e i z d.sz bytes ht hi hz hsize hby hzs hsz v _ inner hs hown ad 1 c news hx (by omega) hnews (d.one (d.T_K hT)) (by omega) (by simp only [maxLen]; omega) (Nat.le_trans (Nat.mul_le_mul hn hb2) (by decide)) (Nat.zero_le _) w.heap.size rfl fun g cap w' hown' hgr hat _ => ?_
  obtain ⟨F', h1, h2, h3, h4⟩ := TS_appF hown hl hp hF hxx hT hown' hgr (by
    rcases hat with h | h
    · exact .inl (by rw [h]; rfl)
    · exact .inr (by rw [h]; rfl))
  exact h _ cap w' F' h1 h2 h3 h4
end Go.Proofs.Ytiefpllmnmmdlaa.H
