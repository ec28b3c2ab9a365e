/-
Batches that the call itself made, whose last one's records grow; what the reference's Compact leans on. Conditions: none.
-/
import Derived.Test.YtiefpllmnmmdlaaHOwnX
import Derived.Test.YtiefpllmnmmdlaaHCp0
namespace Go.Proofs.Ytiefpllmnmmdlaa.H
open Go.RowKit
set_option linter.unusedVariables false
set_option linter.unusedSimpArgs false
set_option maxRecDepth 100000
def kBatchE : Ki Batch := Ki.iso (Ki.pair (Ki.int .i64) (Ki.pair (Ki.int .i64) (Ki.pair (Ki.int .i64) (Ki.pair (Ki.int .i64) (Ki.pair (Ki.int .i64) (Ki.pair (Ki.int .i64) (Ki.sliceE 53 kRecord))))))) (fun x : Batch => (x.Base, x.Epoch, x.Producer, x.Turn, x.Seq, x.Flags, x.Records))
theorem BatchE.opnT {w : World} {F : List Nat} {x : Batch} {cs : List Go.Value} (h : kBatchE.T w F x cs) : ∃ v6, cs = [.int .i64 x.Base, .int .i64 x.Epoch, .int .i64 x.Producer, .int .i64 x.Turn, .int .i64 x.Seq, .int .i64 x.Flags, v6] ∧ TS kRecord 53 w F x.Records v6 ∧ Ex w 53 6 v6 x.Records.length := by
  obtain ⟨_, _, _, _, rfl, rfl, ⟨rfl, rfl⟩, ⟨_, _, _, _, rfl, rfl, ⟨rfl, rfl⟩, ⟨_, _, _, _, rfl, rfl, ⟨rfl, rfl⟩, ⟨_, _, _, _, rfl, rfl, ⟨rfl, rfl⟩, ⟨_, _, _, _, rfl, rfl, ⟨rfl, rfl⟩, ⟨_, _, _, _, rfl, rfl, ⟨rfl, rfl⟩, ⟨v3, rfl, g3, ex⟩⟩⟩⟩⟩⟩⟩ := h
  exact ⟨v3, rfl, by simpa using g3, ex⟩
theorem BatchE.mkT (w : World) (x : Batch) {v6 : Go.Value} {F6 : List Nat} (g6 : TS kRecord 53 w F6 x.Records v6) (ex : Ex w 53 6 v6 x.Records.length) : kBatchE.T w F6 x [.int .i64 x.Base, .int .i64 x.Epoch, .int .i64 x.Producer, .int .i64 x.Turn, .int .i64 x.Seq, .int .i64 x.Flags, v6] := by
  have h : kBatchE.T w _ x [.int .i64 x.Base, .int .i64 x.Epoch, .int .i64 x.Producer, .int .i64 x.Turn, .int .i64 x.Seq, .int .i64 x.Flags, v6] := ⟨[.int .i64 x.Base], [.int .i64 x.Epoch, .int .i64 x.Producer, .int .i64 x.Turn, .int .i64 x.Seq, .int .i64 x.Flags, v6], _, _, rfl, rfl, ⟨rfl, rfl⟩, ⟨[.int .i64 x.Epoch], [.int .i64 x.Producer, .int .i64 x.Turn, .int .i64 x.Seq, .int .i64 x.Flags, v6], _, _, rfl, rfl, ⟨rfl, rfl⟩, ⟨[.int .i64 x.Producer], [.int .i64 x.Turn, .int .i64 x.Seq, .int .i64 x.Flags, v6], _, _, rfl, rfl, ⟨rfl, rfl⟩, ⟨[.int .i64 x.Turn], [.int .i64 x.Seq, .int .i64 x.Flags, v6], _, _, rfl, rfl, ⟨rfl, rfl⟩, ⟨[.int .i64 x.Seq], [.int .i64 x.Flags, v6], _, _, rfl, rfl, ⟨rfl, rfl⟩, ⟨[.int .i64 x.Flags], [v6], _, _, rfl, rfl, ⟨rfl, rfl⟩, ⟨_, rfl, g6, ex⟩⟩⟩⟩⟩⟩⟩
  simpa using h
theorem BatchE.toT (w : World) (F : List Nat) (x : Batch) (cs : List Go.Value) (h : kBatchE.T w F x cs) : kBatch.T w F x cs := by
  obtain ⟨v6, rfl, g6, _⟩ := BatchE.opnT h
  exact Batch.mkT w x g6
theorem OwnX.seg {B : Nat} {X : List Nat} {w : World} {L : List Batch} {v : Value} (h : OwnX kBatchE 48 B X w L v) : OwnT kBatch 48 B w L v := by
  obtain ⟨F, h1, h2, h3, _⟩ := h
  exact ⟨F, TS_kind (d := kBatchE) (d' := kBatch) rfl BatchE.toT h1, h2, fun b hb => (h3 b hb).1⟩
section
variable {B : Nat} {X : List Nat} {W w : World} {Z : List Batch} {y : Batch} {c : Nat}
/-- The last batch's cell of records. -/
theorem OwnX.last {v : Value} (h : OwnX kBatchE 48 B X W (Z ++ [y]) v) : ∃ g c A6 c6, v = .slice (some ⟨g, 0, none⟩) (Z.length + 1) c ∧ W.cell? ⟨g, Z.length * 7 + 6, none⟩ = some (.slice A6 y.Records.length c6) ∧ Z.length + 1 ≤ c ∧ c ≤ maxLen := by
  obtain ⟨F, h1, h2, h3, h4⟩ := h
  obtain ⟨g, c, Fi, x, cs, rfl, hc, hm, hx, hT, hF⟩ := Foc.open (i := Z.length) h1 h2 (by simp)
  simp at hx
  subst hx
  obtain ⟨v6, rfl, g6, ex⟩ := BatchE.opnT hT
  obtain ⟨A6, c6, rfl, _⟩ := TS_read g6
  have hcell := (hF.cell 6 (by decide)).1
  refine ⟨g, c, A6, c6, by simp, ?_, by simpa using hc, hm⟩
  simpa [show kBatchE.sz = 7 from rfl] using hcell
/-- 'append(y.Records, r)', y the last batch, at a step of a region that draws its order. -/
theorem step_rec {P : Program} {ops : Array Oper} {o : Oper} {a : Act} {K : Act → World → Prop} {Q : Exit → Act → World → Prop} {E : Prop} {z : Value} (hI : (P.info? 53).map (fun i => (i.zero, i.size, i.bytes)) = some (some z, 6, 80)) (hzs : z.cells.size = 6)
    (hgd : o.guard = none) (s x : Operand) (t : TypeId) (ho : o.op = .call { callee := .builtin .append, args := #[s, x], argTypes := #[t, t] }) (ht : P.underlying t = some (.slice 53))
    {g : Nat} {v6 : Value} (hs : a.eval s = v6) (hO : OwnX kBatchE 48 B X W (Z ++ [y]) (.slice (some ⟨g, 0, none⟩) (Z.length + 1) c)) (hv : W.cell? ⟨g, Z.length * 7 + 6, none⟩ = some v6) (hb : Below W.heap.size W w) (hB : B ≤ W.heap.size) (r : Record) {Fx : List Nat} (hX : ∀ x ∈ X, x < w.heap.size ∧ x ∉ Fx)
    {cs : Array Value} (hT : kRecord.T w Fx r cs.toList) (hF : Fresh W Fx) (vb cx : Nat) (hx : a.eval x = .slice (some ⟨vb, 0, none⟩) 1 cx) (hc : Box w vb cs) (hn : y.Records.length ≤ 1000000)
    (hK : ∀ A cap w', OwnX kBatchE 48 B X (w'.setCell ⟨g, Z.length * 7 + 6, none⟩ (.slice A (y.Records.length + 1) cap)) (Z ++ [⟨y.Base, y.Epoch, y.Producer, y.Turn, y.Seq, y.Flags, y.Records ++ [r]⟩]) (.slice (some ⟨g, 0, none⟩) (Z.length + 1) c) → Bx B X w w' → Bx B X w (w'.setCell ⟨g, Z.length * 7 + 6, none⟩ (.slice A (y.Records.length + 1) cap)) → w'.cell? ⟨g, Z.length * 7 + 6, none⟩ = some v6 → w'.frozen? ⟨g, Z.length * 7 + 6, none⟩ = false → g < w'.heap.size → K (a.put o.dst (.slice A (y.Records.length + 1) cap)) w') :
    if Region.wanted o (yielded ops a.tmps) = true then Oper.wp P o a w K Q else E := by
  have hsw := hb.size
  obtain ⟨F, h1, h2, h3, h4⟩ := hO
  have hltF := TS_lt h1
  obtain ⟨g0, c0, Fi, x0, cs0, hv0, hc0, hm0, hx0, hT0, hFoc⟩ := Foc.open (i := Z.length) h1 h2 (by simp)
  simp only [List.length_append, List.length_singleton, Value.slice.injEq, Option.some.injEq, Addr.mk.injEq, and_true, true_and] at hv0
  obtain ⟨rfl, rfl⟩ := hv0
  simp only [List.getElem?_append_right (Nat.le_refl _), Nat.sub_self, List.getElem?_cons_zero, Option.some.injEq] at hx0
  subst hx0
  obtain ⟨v', rfl, g6, ex⟩ := BatchE.opnT hT0
  have hcell := (hFoc.cell 6 (by decide)).1
  have hve : v6 = v' := by
    have : W.cell? ⟨g, Z.length * 7 + 6, none⟩ = some v' := hcell
    rw [hv] at this
    exact Option.some.inj this
  subst hve
  have hmem := hFoc.mem
  have hgF : g < W.heap.size := hltF g hmem.1
  have hFi : ∀ b ∈ Fi, b < W.heap.size := fun b hb' => hltF b (hmem.2.2.2 b hb')
  have g6' := TS_below g6 hb
  have ex' := ex.below hb
  obtain ⟨inner, Gs, hownL, hl, _, hp, hxx⟩ := g6'
  have hown := ex'.row hownL (by decide)
  obtain ⟨i0, hi, hz0, hz1, hz2⟩ := info_parts hI
  refine step_append_lies w hgd s x t ho 0 53 i0 z 6 80 ht hi hz0 hz1 hz2 hzs (by decide) v6 _ inner hs hown ⟨vb, 0, none⟩ 1 cx cs.toList hx (kRecord.len (kRecord.T_K hT)) (fun j u hj => ?_) (kRecord.one (kRecord.T_K hT)) (by omega) (by simp only [maxLen]; omega) (Nat.le_trans (Nat.mul_le_mul (by omega : _ ≤ 1000001) (Nat.le_refl 80)) (by decide)) (Nat.zero_le _) w.heap.size rfl fun g' cap w' hown' hgr hat _ => ?_
  · have hcj := hc j u (by simpa using hj)
    by_cases e0 : j = 0
    · subst e0; exact hcj
    · simpa [Addr.add, e0] using hcj
  have hndx : (Fi ++ Fx).Nodup := List.nodup_append.2 ⟨hmem.2.2.1, hF.1, fun p hp q hq e => by have := hFi p hp; have := hF.2 q hq; omega⟩
  obtain ⟨F', k1, k2, k3, k4⟩ := TS_appF (d := kRecord) (Fx := Fx) (y := r) hown hl hp hndx hxx hT hown' hgr (by
    rcases hat with h | h
    · exact .inl (by rw [h]; rfl)
    · exact .inr (by rw [h]; rfl))
  have hgFx : g ∉ F' := fun hh => by
    rcases k3 g hh with h | h | h
    · exact hmem.2.1 h
    · have := hF.2 g h; omega
    · omega
  have hf2 := (hFoc.upd (Upd.of_below hb)).upd k4
  have hcl2 := hf2.cell 6 (by decide)
  have hf3 := hf2.set 6 (by decide) (.slice (some ⟨g', 0, none⟩) (y.Records.length + 1) cap)
  have hex' : Ex w' 53 6 (.slice (some ⟨g', 0, none⟩) (y.Records.length + 1) cap) (y.Records.length + 1) := Ex.of hown'
  have hT3 := TS_setn (o := Z.length * 7 + 6) (u := .slice (some ⟨g', 0, none⟩) (y.Records.length + 1) cap) k1 hgFx
  have hex3 : Ex (w'.setCell ⟨g, Z.length * 7 + 6, none⟩ (.slice (some ⟨g', 0, none⟩) (y.Records.length + 1) cap)) 53 6 (.slice (some ⟨g', 0, none⟩) (y.Records.length + 1) cap) (y.Records ++ [r]).length := by
    rw [List.length_append, List.length_singleton]
    refine hex'.move (fun k hk => Below.heap_setCell w' ⟨g, _, none⟩ _ k (fun (e : k = g) => ?_))
    simp only [Value.ownBlock, Option.some.injEq] at hk
    have hgg : g' = g := hk.trans e
    rcases hat with h | h
    · have hm : g ∈ Fi := by
        obtain ⟨i6, F6, o6, _, _, p6, _⟩ := g6
        exact p6.mem_iff.2 (by simp [h, hgg])
      exact hmem.2.1 hm
    · omega
  obtain ⟨F3, q1, q2, q3⟩ := hf3.closeX (x' := ⟨y.Base, y.Epoch, y.Producer, y.Turn, y.Seq, y.Flags, y.Records ++ [r]⟩) (BatchE.mkT _ ⟨y.Base, y.Epoch, y.Producer, y.Turn, y.Seq, y.Flags, y.Records ++ [r]⟩ hT3 hex3) k2 (fun b hb' => by
    rcases k3 b hb' with h | h | h
    · exact .inl h
    · exact .inr (fun hf => by have := hltF b hf; have := hF.2 b h; omega)
    · exact .inr (fun hf => by have := hltF b hf; omega))
  have hset : (Z ++ [y]).set Z.length ⟨y.Base, y.Epoch, y.Producer, y.Turn, y.Seq, y.Flags, y.Records ++ [r]⟩ = Z ++ [⟨y.Base, y.Epoch, y.Producer, y.Turn, y.Seq, y.Flags, y.Records ++ [r]⟩] := by
    rw [List.set_append_right _ _ (Nat.le_refl _), Nat.sub_self, List.set_cons_zero]
  rw [hset] at q1
  have hBX : Bx B X w w' := ⟨k4.below (fun b hb' => (h3 b (hmem.2.2.2 b hb')).1) (by omega), fun k hk hl => k4.block k hl (fun hf => (h3 k (hmem.2.2.2 k hf)).2 hk)⟩
  have hexO : Ex w' 48 7 (.slice (some ⟨g, 0, none⟩) (Z.length + 1) c) (Z.length + 1) := by
    have h4' : Ex W 48 7 (.slice (some ⟨g, 0, none⟩) (Z.length + 1) c) (Z.length + 1) := by simpa [show kBatchE.sz = 7 from rfl] using h4
    refine (h4'.below hb).move (fun k hk => ?_)
    simp only [Value.ownBlock, Option.some.injEq] at hk
    subst hk
    exact k4.block _ (by omega) hmem.2.1
  refine hK _ cap w' ⟨F3, ?_, q2, fun b hb' => ?_, ?_⟩ hBX (hBX.setCell (h3 g hmem.1).1 (h3 g hmem.1).2 _ _) hcl2.1 hcl2.2.1 hcl2.2.2
  · simpa [show kBatchE.sz = 7 from rfl] using q1
  · rcases q3 b hb' with h | h
    · exact h3 b h
    · rcases k3 b h with h | h | h
      · exact h3 b (hmem.2.2.2 b h)
      · exact ⟨by have := hF.2 b h; omega, fun hx => (hX b hx).2 h⟩
      · exact ⟨by omega, fun hx => by have := (hX b hx).1; omega⟩
  · have := hexO.stored (Z.length * 7 + 6) (.slice (some ⟨g', 0, none⟩) (y.Records.length + 1) cap)
    simpa [show kBatchE.sz = 7 from rfl] using this
end
end Go.Proofs.Ytiefpllmnmmdlaa.H
