/-
NewPart, both sides: a part of the call's own. Conditions: each contract's own premises.
-/
import Derived.Test.YtenldgbabcjjkaaHOwn
import Derived.Test.YtenldgbabcjjkaaHNLog
import Derived.Test.YtenldgbabcjjkaaHTo
import Derived.Test.YtenldgbabcjjkaaHMkDef
import Derived.Deep.RegionLaw
namespace Go.Proofs.Ytenldgbabcjjkaa.H
open Go.RowKit
set_option linter.unusedVariables false
set_option linter.unusedSimpArgs false
set_option maxRecDepth 100000
def nRep (r : Int) : Replica := ⟨⟨0, 0, r, []⟩, 0, true⟩
def upN (k : Nat) : List Int := (List.range k).map (fun (i : Nat) => (i : Int))
theorem upN_succ (k : Nat) : upN (k + 1) = upN k ++ [(k : Int)] := by simp [upN, List.range_succ]
theorem upN_len (k : Nat) : (upN k).length = k := by simp [upN]
def newPart (n l r : Int) : Part := if inB n 1 5 && inB l 1 n && inB r 1 20000 then ⟨List.replicate n.toNat (nRep r), 0, 1, upN n.toNat, List.replicate n.toNat 0, l⟩ else zPart
theorem info_nr : (Try.prog.info? 90).map (fun i => (i.zero, i.size, i.bytes)) = some (some (.agg #[.int .i64 0, .int .i64 0, .int .i64 0, .slice none 0 0, .int .i64 0, .bool false]), 6, 64) := by kernel_rfl
theorem info_ni : (Try.prog.info? 3).map (fun i => (i.zero, i.size, i.bytes)) = some (some (.int .i64 0), 1, 8) := by kernel_rfl
theorem nRep_T (w : World) (r : Int) : kReplica.T w [] (nRep r) [.int .i64 0, .int .i64 0, .int .i64 r, .slice none 0 0, .int .i64 0, .bool true] := by
  have h := Replica.mkT w (nRep r) (TS_nil (d := kSegment) (e := 143))
  simpa [nRep] using h
/-- Three rows of the call's own, apart from each other. -/
structure Own3 (B : Nat) (w : World) (a : List Replica) (b c : List Int) (va vb vc : Value) : Prop where
  ex : ∃ F G H : List Nat, TS kReplica 90 w F a va ∧ TS (Ki.int .i64) 3 w G b vb ∧ TS (Ki.int .i64) 3 w H c vc ∧ F.Nodup ∧ G.Nodup ∧ H.Nodup ∧
    (∀ x ∈ F, B ≤ x) ∧ (∀ x ∈ G, B ≤ x) ∧ (∀ x ∈ H, B ≤ x) ∧ (∀ x ∈ F, x ∉ G) ∧ (∀ x ∈ F, x ∉ H) ∧ (∀ x ∈ G, x ∉ H)
theorem Own3.below {B : Nat} {w w1 : World} {a : List Replica} {b c : List Int} {va vb vc : Value} (h : Own3 B w a b c va vb vc) (hb : Below w.heap.size w w1) : Own3 B w1 a b c va vb vc := by
  obtain ⟨F, G, H, h1, h2, h3, r⟩ := h.ex
  exact ⟨⟨F, G, H, TS_below h1 hb, TS_below h2 hb, TS_below h3 hb, r⟩⟩
theorem Own3.setc {B : Nat} {w : World} {a : List Replica} {b c : List Int} {va vb vc : Value} (h : Own3 B w a b c va vb vc) (g j : Nat) (u : Value) (hg : g < B) : Own3 B (w.setCell ⟨g, j, none⟩ u) a b c va vb vc := by
  obtain ⟨F, G, H, h1, h2, h3, n1, n2, n3, b1, b2, b3, r⟩ := h.ex
  exact ⟨⟨F, G, H, TS_setn h1 (fun hh => by have := b1 g hh; omega), TS_setn h2 (fun hh => by have := b2 g hh; omega), TS_setn h3 (fun hh => by have := b3 g hh; omega), n1, n2, n3, b1, b2, b3, r⟩⟩
theorem step_rep {w : World} {B : Nat} {ops : Array Oper} {o : Oper} {a : Act} {Q : Exit → Act → World → Prop} {K : Act → World → Prop} {E : Prop} (hgd : o.guard = none) (s x : Operand) (t : TypeId)
    (ho : o.op = .call { callee := .builtin .append, args := #[s, x], argTypes := #[t, t] }) (ht : t = 36)
    {k : Nat} {r : Int} {va vb vc : Value} (hs : a.eval s = va) (hO : Own3 B w (List.replicate k (nRep r)) (upN k) (List.replicate k 0) va vb vc) (g : Nat) (c : Nat) (hx : a.eval x = .slice (some ⟨g, 0, none⟩) 1 c)
    (hc : Box w g #[.int .i64 0, .int .i64 0, .int .i64 r, .slice none 0 0, .int .i64 0, .bool true]) (hBw : B ≤ w.heap.size) (hn : k ≤ 5)
    (h : ∀ A c' w', Own3 B w' (List.replicate (k + 1) (nRep r)) (upN k) (List.replicate k 0) (.slice A (k + 1) c') vb vc → Below B w w' → K (a.put o.dst (.slice A (k + 1) c')) w') :
    if Region.wanted o (yielded ops a.tmps) = true then Oper.wp Try.prog o a w K Q else E := by
  subst ht
  obtain ⟨i0, hi, hz0, hz1, hz2⟩ := info_parts info_nr
  obtain ⟨F, G, H, h1, h2, h3, n1, n2, n3, b1, b2, b3, d1, d2, d3⟩ := hO.ex
  refine step_TSF (d := kReplica) (F := F) (Fx := []) hgd s x _ ho 90 i0 _ 64 Try.underlying36 hi hz0 hz1 hz2 rfl (by decide) hs h1 ⟨g, 0, none⟩ c hx (nRep_T w r) (fun j u hj => ?_) (by simpa using n1) (by simp [upN_len]; omega) (by omega) (fun A cap w' F' hT' hn' hs' hu => ?_)
  · have hcj := hc j u (by simpa using hj)
    by_cases e0 : j = 0
    · subst e0; exact hcj
    · simpa [Addr.add, e0] using hcj
  · have hF' : ∀ b ∈ F', b ∈ F ∨ b = w.heap.size := fun b hb => by rcases hs' b hb with h | h | h; exact .inl h; cases h; exact .inr h
    rw [← List.replicate_succ'] at hT'
    simp only [List.length_replicate] at hT' ⊢
    exact h A cap w' ⟨⟨F', G, H, hT', (TS_upd h2 hu (fun b hb hf => d1 b hf hb)), (TS_upd h3 hu (fun b hb hf => d2 b hf hb)), hn', n2, n3, (fun b hb => by rcases hF' b hb with h | h; exact b1 b h; omega), b2, b3, (fun b hb hg => by rcases hF' b hb with h | h; exact d1 b h hg; have := TS_lt h2 b hg; omega), (fun b hb hg => by rcases hF' b hb with h | h; exact d2 b h hg; have := TS_lt h3 b hg; omega), d3⟩⟩ (hu.below b1 hBw)
theorem app_in {w : World} {B : Nat} {ops : Array Oper} {o : Oper} {a : Act} {Q : Exit → Act → World → Prop} {rest : List Oper} (hgd : o.guard = none) (s x : Operand) (t : TypeId)
    (ho : o.op = .call { callee := .builtin .append, args := #[s, x], argTypes := #[t, t] }) (ht : t = 37)
    {k : Nat} {r : Int} {va vb vc : Value} (hs : a.eval s = vb) (hO : Own3 B w (List.replicate (k + 1) (nRep r)) (upN k) (List.replicate k 0) va vb vc) (g : Nat) (c : Nat) (hx : a.eval x = .slice (some ⟨g, 0, none⟩) 1 c)
    (hc : Box w g #[.int .i64 (k : Int)]) (hBw : B ≤ w.heap.size) (hn : k ≤ 5)
    (h : ∀ A c' w', Own3 B w' (List.replicate (k + 1) (nRep r)) (upN (k + 1)) (List.replicate k 0) va (.slice A (k + 1) c') vc → Below B w w' → wpList Try.prog ops Q rest (a.put o.dst (.slice A (k + 1) c')) w') :
    wpList Try.prog ops Q (o :: rest) a w := by
  subst ht
  obtain ⟨i0, hi, hz0, hz1, hz2⟩ := info_parts info_ni
  obtain ⟨F, G, H, h1, h2, h3, n1, n2, n3, b1, b2, b3, d1, d2, d3⟩ := hO.ex
  refine app_TSF (d := (Ki.int .i64)) (F := G) (Fx := []) hgd s x _ ho 3 i0 _ 8 Try.underlying37 hi hz0 hz1 hz2 rfl (by decide) hs h2 ⟨g, 0, none⟩ c hx (show (Ki.int .i64).T w [] (k : Int) [.int .i64 (k : Int)] from ⟨rfl, rfl⟩) (fun j u hj => ?_) (by simpa using n2) (by simp [upN_len]; omega) (by omega) (fun A cap w' F' hT' hn' hs' hu => ?_)
  · have hcj := hc j u (by simpa using hj)
    by_cases e0 : j = 0
    · subst e0; exact hcj
    · simpa [Addr.add, e0] using hcj
  · have hF' : ∀ b ∈ F', b ∈ G ∨ b = w.heap.size := fun b hb => by rcases hs' b hb with h | h | h; exact .inl h; cases h; exact .inr h
    rw [← upN_succ] at hT'
    simp only [upN_len] at hT' ⊢
    exact h A cap w' ⟨⟨F, F', H, (TS_upd h1 hu (fun b hb hf => d1 b hb hf)), hT', (TS_upd h3 hu (fun b hb hf => d3 b hf hb)), n1, hn', n3, b1, (fun b hb => by rcases hF' b hb with h | h; exact b2 b h; omega), b3, (fun b hb hg => by rcases hF' b hg with h | h; exact d1 b hb h; have := TS_lt h1 b hb; omega), d2, (fun b hb hg => by rcases hF' b hb with h | h; exact d3 b h hg; have := TS_lt h3 b hg; omega)⟩⟩ (hu.below b2 hBw)
theorem app_kn {w : World} {B : Nat} {ops : Array Oper} {o : Oper} {a : Act} {Q : Exit → Act → World → Prop} {rest : List Oper} (hgd : o.guard = none) (s x : Operand) (t : TypeId)
    (ho : o.op = .call { callee := .builtin .append, args := #[s, x], argTypes := #[t, t] }) (ht : t = 37)
    {k : Nat} {r : Int} {va vb vc : Value} (hs : a.eval s = vc) (hO : Own3 B w (List.replicate (k + 1) (nRep r)) (upN (k + 1)) (List.replicate k 0) va vb vc) (g : Nat) (c : Nat) (hx : a.eval x = .slice (some ⟨g, 0, none⟩) 1 c)
    (hc : Box w g #[.int .i64 0]) (hBw : B ≤ w.heap.size) (hn : k ≤ 5)
    (h : ∀ A c' w', Own3 B w' (List.replicate (k + 1) (nRep r)) (upN (k + 1)) (List.replicate (k + 1) 0) va vb (.slice A (k + 1) c') → Below B w w' → wpList Try.prog ops Q rest (a.put o.dst (.slice A (k + 1) c')) w') :
    wpList Try.prog ops Q (o :: rest) a w := by
  subst ht
  obtain ⟨i0, hi, hz0, hz1, hz2⟩ := info_parts info_ni
  obtain ⟨F, G, H, h1, h2, h3, n1, n2, n3, b1, b2, b3, d1, d2, d3⟩ := hO.ex
  refine app_TSF (d := (Ki.int .i64)) (F := H) (Fx := []) hgd s x _ ho 3 i0 _ 8 Try.underlying37 hi hz0 hz1 hz2 rfl (by decide) hs h3 ⟨g, 0, none⟩ c hx (show (Ki.int .i64).T w [] (0 : Int) [.int .i64 0] from ⟨rfl, rfl⟩) (fun j u hj => ?_) (by simpa using n3) (by simp [upN_len]; omega) (by omega) (fun A cap w' F' hT' hn' hs' hu => ?_)
  · have hcj := hc j u (by simpa using hj)
    by_cases e0 : j = 0
    · subst e0; exact hcj
    · simpa [Addr.add, e0] using hcj
  · have hF' : ∀ b ∈ F', b ∈ H ∨ b = w.heap.size := fun b hb => by rcases hs' b hb with h | h | h; exact .inl h; cases h; exact .inr h
    rw [← List.replicate_succ'] at hT'
    simp only [List.length_replicate] at hT' ⊢
    exact h A cap w' ⟨⟨F, G, F', (TS_upd h1 hu (fun b hb hf => d2 b hb hf)), (TS_upd h2 hu (fun b hb hf => d3 b hb hf)), hT', n1, n2, hn', b1, b2, (fun b hb => by rcases hF' b hb with h | h; exact b3 b h; omega), d1, (fun b hb hg => by rcases hF' b hg with h | h; exact d2 b hb h; have := TS_lt h1 b hb; omega), (fun b hb hg => by rcases hF' b hg with h | h; exact d3 b hb h; have := TS_lt h2 b hb; omega)⟩⟩ (hu.below b3 hBw)
theorem Blk.belowB {w w1 : World} {g B : Nat} {cs : Array Value} {t : TypeId} (h : Blk w g cs t) (hb : Below B w w1) (hg : g < B) : Blk w1 g cs t := (hb.block g hg).trans h
theorem nRepLog {r : Int} (h : inB r 1 20000 = true) : newLog 0 r = ⟨0, 0, r, []⟩ := by unfold newLog; rw [h]; simp [inB]
theorem implNL_c (w : World) (r : Int) (h : inB r 1 20000 = true) : Calls Try.prog 53 #[.int .i64 0, .int .i64 r] w fun e w' => e = .returned (.agg #[.int .i64 0, .int .i64 0, .int .i64 r, .slice none 0 0]) ∧ Below w.heap.size w w' := by
  have h1 := implNewLog_c w 0 r
  rw [nRepLog h] at h1
  exact h1
theorem specNL_c (w : World) (r : Int) (h : inB r 1 20000 = true) : Calls Try.prog 51 #[.int .i64 0, .int .i64 r] w fun e w' => e = .returned (.agg #[.int .i64 0, .int .i64 0, .int .i64 r, .slice none 0 0]) ∧ Below w.heap.size w w' := by
  have h1 := specNewLog_c w 0 r
  rw [nRepLog h] at h1
  exact h1
set_option maxHeartbeats 8000000 in
theorem implNewPart_c (w : World) (n l r : Int) : Calls Try.prog 20 #[.int .i64 n, .int .i64 l, .int .i64 r] w ((newPart n l r).Made w) := by
  have hu := Try.underlying90
  have hu2 := Try.underlying36
  have hu3 := Try.underlying39
  have hu4 := Try.underlying37
  generalize h1 : inB n 1 5 = b1
  generalize h2 : inB l 1 n = b2
  generalize h3 : inB r 1 20000 = b3
  have H1 := Lib.hid h1
  have H2 := Lib.hid h2
  have H3 := Lib.hid h3
  by_cases hb12 : (b1 && b2 && b3) = true
  case neg =>
    have HQ : Hid (newPart n l r = zPart) := Lib.hid (by unfold newPart; rw [h1, h2, h3, if_neg hb12])
    have hb : b1 = false ∨ b2 = false ∨ b3 = false := by cases b1 <;> cases b2 <;> cases b3 <;> simp_all
    clear h1 h2 h3 hb12
    have hM : ∀ w', Below w.heap.size w w' → (newPart n l r).Made w (.returned (.agg #[.slice none 0 0, .int .i64 0, .int .i64 0, .slice none 0 0, .slice none 0 0, .int .i64 0])) w' := fun w' hb => by
      rw [HQ.out]
      refine ⟨_, _, _, [], rfl, ?_, Fresh.nil _, hb⟩
      have h := Part.mkT w' zPart (TS_nil (d := kReplica) (e := 90)) (TS_nil (d := Ki.int .i64) (e := 3)) (TS_nil (d := Ki.int .i64) (e := 3))
      simpa [zPart] using h
    rcases hb with rfl | rfl | rfl
    all_goals
      go_enter Try.func20, Try.ntmps20
      go_wp2_with (first | (go_at_call 52; ((with_reducible refine (within_c n _ _ _).mono ?_); rintro e w' ⟨rfl, rfl⟩; rw [H1.out])) | (go_at_call 52; ((with_reducible refine (within_c l _ _ _).mono ?_); rintro e w' ⟨rfl, rfl⟩; rw [H2.out])) | (go_at_call 52; ((with_reducible refine (within_c r _ _ _).mono ?_); rintro e w' ⟨rfl, rfl⟩; rw [H3.out])))
    all_goals refine bodyPost_ret (v := .agg #[.slice none 0 0, .int .i64 0, .int .i64 0, .slice none 0 0, .slice none 0 0, .int .i64 0]) (by simp [results, Try.results20, go_sem]) rfl (hM _ ?_)
    all_goals repeat (first | with_reducible exact Below.refl _ _ | with_reducible assumption | ((with_reducible refine Below.setCell ?_ ?_ _); rotate_left; (simp <;> omega)) | ((with_reducible refine Below.alloc ?_ ?_ _); rotate_left; (simp <;> omega)))
  case pos =>
    obtain ⟨⟨rfl, rfl⟩, rfl⟩ : (b1 = true ∧ b2 = true) ∧ b3 = true := by cases b1 <;> cases b2 <;> cases b3 <;> simp_all
    obtain ⟨m, rfl, hm0, hm1⟩ : ∃ m : Nat, n = m ∧ 1 ≤ m ∧ m ≤ 5 := by
      simp only [inB, decide_eq_true_eq] at h1
      exact ⟨n.toNat, by omega, by omega, by omega⟩
    have HQ : Hid (newPart m l r = ⟨List.replicate m (nRep r), 0, 1, upN m, List.replicate m 0, l⟩) := Lib.hid (by unfold newPart; rw [h1, h2, h3]; simp)
    clear h1 h2 h3 hb12
    go_enter Try.func20, Try.ntmps20
    go_upto_region 4 with (first | (go_at_call 52; ((with_reducible refine (within_c (m : Int) _ _ _).mono ?_); rintro e w' ⟨rfl, rfl⟩; rw [H1.out])) | (go_at_call 52; ((with_reducible refine (within_c l _ _ _).mono ?_); rintro e w' ⟨rfl, rfl⟩; rw [H2.out])) | (go_at_call 52; ((with_reducible refine (within_c r _ _ _).mono ?_); rintro e w' ⟨rfl, rfl⟩; rw [H3.out])))
    go_wp2
    go_loopg [27] m (fun g v27 wr => ∃ (k : Nat) (A0 A3 A4 : Option Addr) (c0 c3 c4 : Nat), k + g = m ∧ v27 = .int .i64 k ∧ Hid (Blk wr w.heap.size #[.slice none 0 0, .int .i64 0, .int .i64 0, .slice none 0 0, .slice none 0 0, .int .i64 0] 39) ∧ Hid (Blk wr (w.heap.size + 1) #[.slice A0 k c0, .int .i64 0, .int .i64 1, .slice A3 k c3, .slice A4 k c4, .int .i64 l] 39) ∧ Below w.heap.size w wr ∧ Hid (Own3 (w.heap.size + 2) wr (List.replicate k (nRep r)) (upN k) (List.replicate k 0) (.slice A0 k c0) (.slice A3 k c3) (.slice A4 k c4)))
    case atStart =>
      refine ⟨0, none, none, none, 0, 0, 0, by omega, rfl, Lib.hid ((Blk.new w _ _).below (below_al _ _)), Lib.hid ?_, below_tr (below_al _ _) (below_al _ _), Lib.hid ⟨⟨[], [], [], TS_nil, TS_nil, TS_nil, by simp, by simp, by simp, by simp, by simp, by simp, by simp, by simp, by simp⟩⟩⟩
      have h := Blk.new (w.alloc (.cells #[.slice none 0 0, .int .i64 0, .int .i64 0, .slice none 0 0, .slice none 0 0, .int .i64 0] 39)) #[.slice none 0 0, .int .i64 0, .int .i64 1, .slice none 0 0, .slice none 0 0, .int .i64 l] 39
      rw [size_al] at h
      exact h
    case round =>
      obtain ⟨k, A0, A3, A4, c0, c3, c4, hk, rfl, HB1, HB2, hb, HO⟩ := hrel
      have hg2 := HB2.out.lt
      have hg1 := HB1.out.lt
      by_cases hlt : k < m
      case neg =>
        obtain rfl : k = m := by omega
        have t0 := HB2.out.cell 0 (.slice A0 k c0) rfl
        have t1 := HB2.out.cell 1 (.int .i64 0) rfl
        have t2 := HB2.out.cell 2 (.int .i64 1) rfl
        have t3 := HB2.out.cell 3 (.slice A3 k c3) rfl
        have t4 := HB2.out.cell 4 (.slice A4 k c4) rfl
        have t5 := HB2.out.cell 5 (.int .i64 l) rfl
        have s0 := HB1.out.cell 0 (.slice none 0 0) rfl
        have s1 := HB1.out.cell 1 (.int .i64 0) rfl
        have s2 := HB1.out.cell 2 (.int .i64 0) rfl
        have s3 := HB1.out.cell 3 (.slice none 0 0) rfl
        have s4 := HB1.out.cell 4 (.slice none 0 0) rfl
        have s5 := HB1.out.cell 5 (.int .i64 0) rfl
        have e0 := HB1.out.frz 0
        have e1 := HB1.out.frz 1
        have e2 := HB1.out.frz 2
        have e3 := HB1.out.frz 3
        have e4 := HB1.out.frz 4
        have e5 := HB1.out.frz 5
        have HO' := Lib.hid ((((((HO.out.setc w.heap.size 0 (.slice A0 k c0) (by omega)).setc w.heap.size 1 (.int .i64 0) (by omega)).setc w.heap.size 2 (.int .i64 1) (by omega)).setc w.heap.size 3 (.slice A3 k c3) (by omega)).setc w.heap.size 4 (.slice A4 k c4) (by omega)).setc w.heap.size 5 (.int .i64 l) (by omega))
        go_wp2
        refine bodyPost_ret (v := .agg #[.slice A0 k c0, .int .i64 0, .int .i64 1, .slice A3 k c3, .slice A4 k c4, .int .i64 l]) (by simp [results, Try.results20, go_sem, s0, s1, s2, s3, s4, s5]) rfl ?_
        obtain ⟨F, G, H, h1, h2, h3, n1, n2, n3, b1, b2, b3, d1, d2, d3⟩ := HO'.out.ex
        rw [HQ.out]
        refine ⟨_, _, _, F ++ (G ++ H), rfl, ?_, ⟨?_, ?_⟩, ?_⟩
        · exact Part.mkT _ ⟨List.replicate k (nRep r), 0, 1, upN k, List.replicate k 0, l⟩ h1 h2 h3
        · exact List.nodup_append.2 ⟨n1, List.nodup_append.2 ⟨n2, n3, fun a ha b hb e => d3 a ha (e ▸ hb)⟩, fun a ha b hb e => by
            rcases List.mem_append.1 hb with hb | hb
            · exact d1 a ha (e ▸ hb)
            · exact d2 a ha (e ▸ hb)⟩
        · intro b hb
          rcases List.mem_append.1 hb with hb | hb
          · have := b1 b hb; omega
          · rcases List.mem_append.1 hb with hb | hb
            · have := b2 b hb; omega
            · have := b3 b hb; omega
        · repeat (first | with_reducible exact Below.refl _ _ | with_reducible assumption | ((with_reducible refine Below.setCell ?_ ?_ _); rotate_left; (simp <;> omega)) | ((with_reducible refine Below.alloc ?_ ?_ _); rotate_left; (simp <;> omega)))
      have t0 := HB2.out.cell 0 (.slice A0 k c0) rfl
      have f0 := HB2.out.frz 0
      go_upto_region 7 with fail
      go_region_law (first
          | (refine step_call rfl 53 #[.int .i64 0, .int .i64 r] (by simp [go_sem]) (implNL_c _ r H3.out) ?_; intro w1 hb1'; have hb1 : Below wr.heap.size wr w1 := below_tr (Below.refl _ _).drew hb1'; have hs1 := hb1.size; have t0' := later hb1 t0; have g1' := World.block_lt_of_cell? w1 _ t0')
          | (refine step_rep rfl _ _ _ (by rfl) rfl (by rfl) (HO.out.below (below_tr hb1 (below_al _ _))) _ _ (by rfl) (Box.new w1 _ _) (by simp; omega) (by omega) ?_; intro A' c' w' hO3 hbB; have HBn := Lib.hid ((HB2.out.below (below_tr hb1 (below_al _ _))).belowB hbB (by omega)); have t1n := HBn.out.cell 0 (.slice A0 k c0) rfl; have f1n := HBn.out.frz 0; have g1n := HBn.out.lt))
      all_goals
        have HB1n := Lib.hid (((HB1.out.below (below_tr hb1 (below_al _ _))).belowB hbB (by omega)).far (w.heap.size + 1) 0 (.slice A' (k + 1) c') (by omega))
        have HB2n := Lib.hid (HBn.out.set 0 (.slice A' (k + 1) c'))
        have hbn := ((below_tr hb (below_tr hb1 (below_al _ _))).trans (hbB.mono (by omega))).setCell (p := ⟨w.heap.size + 1, 0, none⟩) (by simp) (.slice A' (k + 1) c')
        have HOn := Lib.hid (hO3.setc (w.heap.size + 1) 0 (.slice A' (k + 1) c') (by omega))
        generalize hW : w'.setCell ⟨w.heap.size + 1, 0, none⟩ (.slice A' (k + 1) c') = W2 at HB1n HB2n hbn HOn ⊢
        clear hW HBn t1n f1n g1n hO3 hbB t0' g1' hb1 hb1' hs1 t0 f0 HB1 HB2 hb HO hg1 hg2
        have hg2 := HB2n.out.lt
        have hg1 := HB1n.out.lt
        have q3 := HB2n.out.cell 3 (.slice A3 k c3) rfl
        have z3 := HB2n.out.frz 3
        go_upto_region 8 with fail
        go_upto_region 9 with (at_builtin; refine app_in rfl _ _ _ rfl rfl rfl (HOn.out.below (below_al _ _)) _ _ rfl (Box.new W2 _ _) (by simp; omega) (by omega) ?_; intro A'' c'' w3 hO4 hbB2; have HBm := Lib.hid ((HB2n.out.below (below_al _ _)).belowB hbB2 (by omega)); have q3n := HBm.out.cell 3 (.slice A3 k c3) rfl; have z3n := HBm.out.frz 3; have g3n := HBm.out.lt)
        have HB1m := Lib.hid (((HB1n.out.below (below_al _ _)).belowB hbB2 (by omega)).far (w.heap.size + 1) 3 (.slice A'' (k + 1) c'') (by omega))
        have HB2m := Lib.hid (HBm.out.set 3 (.slice A'' (k + 1) c''))
        have hbm := ((below_tr hbn (below_al _ _)).trans (hbB2.mono (by omega))).setCell (p := ⟨w.heap.size + 1, 3, none⟩) (by simp) (.slice A'' (k + 1) c'')
        have HOm := Lib.hid (hO4.setc (w.heap.size + 1) 3 (.slice A'' (k + 1) c'') (by omega))
        generalize hW : w3.setCell ⟨w.heap.size + 1, 3, none⟩ (.slice A'' (k + 1) c'') = W4 at HB1m HB2m hbm HOm ⊢
        clear hW HBm q3n z3n g3n hO4 hbB2 q3 z3 HB1n HB2n hbn HOn hg1 hg2
        have hg2 := HB2m.out.lt
        have hg1 := HB1m.out.lt
        have q4 := HB2m.out.cell 4 (.slice A4 k c4) rfl
        have z4 := HB2m.out.frz 4
        go_wp2_with (at_builtin; refine app_kn rfl _ _ _ rfl rfl rfl (HOm.out.below (below_al _ _)) _ _ rfl (Box.new W4 _ _) (by simp; omega) (by omega) ?_; intro A5 c5 w5 hO5 hbB3; have HBk := Lib.hid ((HB2m.out.below (below_al _ _)).belowB hbB3 (by omega)); have q4n := HBk.out.cell 4 (.slice A4 k c4) rfl; have z4n := HBk.out.frz 4; have g4n := HBk.out.lt)
        go_roundg (gk - 1)
        case rel => exact ⟨k + 1, A', A'', A5, c', c'', c5, by omega, by go_num, Lib.hid (((HB1m.out.below (below_al _ _)).belowB hbB3 (by omega)).far (w.heap.size + 1) 4 _ (by omega)), Lib.hid (HBk.out.set 4 (.slice A5 (k + 1) c5)), ((below_tr hbm (below_al _ _)).trans (hbB3.mono (by omega))).setCell (p := ⟨w.heap.size + 1, 4, none⟩) (by simp) _, Lib.hid (hO5.setc (w.heap.size + 1) 4 _ (by omega))⟩
        case measure => omega
set_option maxHeartbeats 8000000 in
theorem specNewPart_c (w : World) (n l r : Int) : Calls Try.prog 19 #[.int .i64 n, .int .i64 l, .int .i64 r] w ((newPart n l r).Made w) := by
  have hu := Try.underlying90
  have hu2 := Try.underlying36
  have hu3 := Try.underlying39
  have hu4 := Try.underlying37
  generalize h1 : inB n 1 5 = b1
  generalize h2 : inB l 1 n = b2
  generalize h3 : inB r 1 20000 = b3
  have H1 := Lib.hid h1
  have H2 := Lib.hid h2
  have H3 := Lib.hid h3
  by_cases hb12 : (b1 && b2 && b3) = true
  case neg =>
    have HQ : Hid (newPart n l r = zPart) := Lib.hid (by unfold newPart; rw [h1, h2, h3, if_neg hb12])
    have hb : b1 = false ∨ b2 = false ∨ b3 = false := by cases b1 <;> cases b2 <;> cases b3 <;> simp_all
    clear h1 h2 h3 hb12
    have hM : ∀ w', Below w.heap.size w w' → (newPart n l r).Made w (.returned (.agg #[.slice none 0 0, .int .i64 0, .int .i64 0, .slice none 0 0, .slice none 0 0, .int .i64 0])) w' := fun w' hb => by
      rw [HQ.out]
      refine ⟨_, _, _, [], rfl, ?_, Fresh.nil _, hb⟩
      have h := Part.mkT w' zPart (TS_nil (d := kReplica) (e := 90)) (TS_nil (d := Ki.int .i64) (e := 3)) (TS_nil (d := Ki.int .i64) (e := 3))
      simpa [zPart] using h
    rcases hb with rfl | rfl | rfl
    all_goals
      go_enter Try.func19, Try.ntmps19
      go_wp2_with (first | (go_at_call 50; ((with_reducible refine (l1In_c n _ _ _).mono ?_); rintro e w' ⟨rfl, rfl⟩; rw [H1.out])) | (go_at_call 50; ((with_reducible refine (l1In_c l _ _ _).mono ?_); rintro e w' ⟨rfl, rfl⟩; rw [H2.out])) | (go_at_call 50; ((with_reducible refine (l1In_c r _ _ _).mono ?_); rintro e w' ⟨rfl, rfl⟩; rw [H3.out])))
    all_goals refine bodyPost_ret (v := .agg #[.slice none 0 0, .int .i64 0, .int .i64 0, .slice none 0 0, .slice none 0 0, .int .i64 0]) (by simp [results, Try.results19, go_sem]) rfl (hM _ ?_)
    all_goals repeat (first | with_reducible exact Below.refl _ _ | with_reducible assumption | ((with_reducible refine Below.setCell ?_ ?_ _); rotate_left; (simp <;> omega)) | ((with_reducible refine Below.alloc ?_ ?_ _); rotate_left; (simp <;> omega)))
  case pos =>
    obtain ⟨⟨rfl, rfl⟩, rfl⟩ : (b1 = true ∧ b2 = true) ∧ b3 = true := by cases b1 <;> cases b2 <;> cases b3 <;> simp_all
    obtain ⟨m, rfl, hm0, hm1⟩ : ∃ m : Nat, n = m ∧ 1 ≤ m ∧ m ≤ 5 := by
      simp only [inB, decide_eq_true_eq] at h1
      exact ⟨n.toNat, by omega, by omega, by omega⟩
    have HQ : Hid (newPart m l r = ⟨List.replicate m (nRep r), 0, 1, upN m, List.replicate m 0, l⟩) := Lib.hid (by unfold newPart; rw [h1, h2, h3]; simp)
    clear h1 h2 h3 hb12
    go_enter Try.func19, Try.ntmps19
    go_upto_region 4 with (first | (go_at_call 50; ((with_reducible refine (l1In_c (m : Int) _ _ _).mono ?_); rintro e w' ⟨rfl, rfl⟩; rw [H1.out])) | (go_at_call 50; ((with_reducible refine (l1In_c l _ _ _).mono ?_); rintro e w' ⟨rfl, rfl⟩; rw [H2.out])) | (go_at_call 50; ((with_reducible refine (l1In_c r _ _ _).mono ?_); rintro e w' ⟨rfl, rfl⟩; rw [H3.out])))
    go_wp2
    go_loopg [8] m (fun g v8 wr => ∃ (k : Nat) (A0 A3 A4 : Option Addr) (c0 c3 c4 : Nat), k + g = m ∧ v8 = .int .i64 k ∧ Hid (Blk wr w.heap.size #[.slice none 0 0, .int .i64 0, .int .i64 0, .slice none 0 0, .slice none 0 0, .int .i64 0] 39) ∧ Hid (Blk wr (w.heap.size + 1) #[.slice A0 k c0, .int .i64 0, .int .i64 1, .slice A3 k c3, .slice A4 k c4, .int .i64 l] 39) ∧ Below w.heap.size w wr ∧ Hid (Own3 (w.heap.size + 2) wr (List.replicate k (nRep r)) (upN k) (List.replicate k 0) (.slice A0 k c0) (.slice A3 k c3) (.slice A4 k c4)))
    case atStart =>
      refine ⟨0, none, none, none, 0, 0, 0, by omega, rfl, Lib.hid ((Blk.new w _ _).below (below_al _ _)), Lib.hid ?_, below_tr (below_al _ _) (below_al _ _), Lib.hid ⟨⟨[], [], [], TS_nil, TS_nil, TS_nil, by simp, by simp, by simp, by simp, by simp, by simp, by simp, by simp, by simp⟩⟩⟩
      have h := Blk.new (w.alloc (.cells #[.slice none 0 0, .int .i64 0, .int .i64 0, .slice none 0 0, .slice none 0 0, .int .i64 0] 39)) #[.slice none 0 0, .int .i64 0, .int .i64 1, .slice none 0 0, .slice none 0 0, .int .i64 l] 39
      rw [size_al] at h
      exact h
    case round =>
      obtain ⟨k, A0, A3, A4, c0, c3, c4, hk, rfl, HB1, HB2, hb, HO⟩ := hrel
      have hg2 := HB2.out.lt
      have hg1 := HB1.out.lt
      by_cases hlt : k < m
      case neg =>
        obtain rfl : k = m := by omega
        have t0 := HB2.out.cell 0 (.slice A0 k c0) rfl
        have t1 := HB2.out.cell 1 (.int .i64 0) rfl
        have t2 := HB2.out.cell 2 (.int .i64 1) rfl
        have t3 := HB2.out.cell 3 (.slice A3 k c3) rfl
        have t4 := HB2.out.cell 4 (.slice A4 k c4) rfl
        have t5 := HB2.out.cell 5 (.int .i64 l) rfl
        have s0 := HB1.out.cell 0 (.slice none 0 0) rfl
        have s1 := HB1.out.cell 1 (.int .i64 0) rfl
        have s2 := HB1.out.cell 2 (.int .i64 0) rfl
        have s3 := HB1.out.cell 3 (.slice none 0 0) rfl
        have s4 := HB1.out.cell 4 (.slice none 0 0) rfl
        have s5 := HB1.out.cell 5 (.int .i64 0) rfl
        have e0 := HB1.out.frz 0
        have e1 := HB1.out.frz 1
        have e2 := HB1.out.frz 2
        have e3 := HB1.out.frz 3
        have e4 := HB1.out.frz 4
        have e5 := HB1.out.frz 5
        have HO' := Lib.hid ((((((HO.out.setc w.heap.size 0 (.slice A0 k c0) (by omega)).setc w.heap.size 1 (.int .i64 0) (by omega)).setc w.heap.size 2 (.int .i64 1) (by omega)).setc w.heap.size 3 (.slice A3 k c3) (by omega)).setc w.heap.size 4 (.slice A4 k c4) (by omega)).setc w.heap.size 5 (.int .i64 l) (by omega))
        go_wp2
        refine bodyPost_ret (v := .agg #[.slice A0 k c0, .int .i64 0, .int .i64 1, .slice A3 k c3, .slice A4 k c4, .int .i64 l]) (by simp [results, Try.results19, go_sem, s0, s1, s2, s3, s4, s5]) rfl ?_
        obtain ⟨F, G, H, h1, h2, h3, n1, n2, n3, b1, b2, b3, d1, d2, d3⟩ := HO'.out.ex
        rw [HQ.out]
        refine ⟨_, _, _, F ++ (G ++ H), rfl, ?_, ⟨?_, ?_⟩, ?_⟩
        · exact Part.mkT _ ⟨List.replicate k (nRep r), 0, 1, upN k, List.replicate k 0, l⟩ h1 h2 h3
        · exact List.nodup_append.2 ⟨n1, List.nodup_append.2 ⟨n2, n3, fun a ha b hb e => d3 a ha (e ▸ hb)⟩, fun a ha b hb e => by
            rcases List.mem_append.1 hb with hb | hb
            · exact d1 a ha (e ▸ hb)
            · exact d2 a ha (e ▸ hb)⟩
        · intro b hb
          rcases List.mem_append.1 hb with hb | hb
          · have := b1 b hb; omega
          · rcases List.mem_append.1 hb with hb | hb
            · have := b2 b hb; omega
            · have := b3 b hb; omega
        · repeat (first | with_reducible exact Below.refl _ _ | with_reducible assumption | ((with_reducible refine Below.setCell ?_ ?_ _); rotate_left; (simp <;> omega)) | ((with_reducible refine Below.alloc ?_ ?_ _); rotate_left; (simp <;> omega)))
      have t0 := HB2.out.cell 0 (.slice A0 k c0) rfl
      have f0 := HB2.out.frz 0
      go_upto_region 7 with fail
      go_region_law (first
          | (refine step_call rfl 51 #[.int .i64 0, .int .i64 r] (by simp [go_sem]) (specNL_c _ r H3.out) ?_; intro w1 hb1'; have hb1 : Below wr.heap.size wr w1 := below_tr (Below.refl _ _).drew hb1'; have hs1 := hb1.size; have t0' := later hb1 t0; have g1' := World.block_lt_of_cell? w1 _ t0')
          | (refine step_rep rfl _ _ _ (by rfl) rfl (by rfl) (HO.out.below (below_tr hb1 (below_al _ _))) _ _ (by rfl) (Box.new w1 _ _) (by simp; omega) (by omega) ?_; intro A' c' w' hO3 hbB; have HBn := Lib.hid ((HB2.out.below (below_tr hb1 (below_al _ _))).belowB hbB (by omega)); have t1n := HBn.out.cell 0 (.slice A0 k c0) rfl; have f1n := HBn.out.frz 0; have g1n := HBn.out.lt))
      all_goals
        have HB1n := Lib.hid (((HB1.out.below (below_tr hb1 (below_al _ _))).belowB hbB (by omega)).far (w.heap.size + 1) 0 (.slice A' (k + 1) c') (by omega))
        have HB2n := Lib.hid (HBn.out.set 0 (.slice A' (k + 1) c'))
        have hbn := ((below_tr hb (below_tr hb1 (below_al _ _))).trans (hbB.mono (by omega))).setCell (p := ⟨w.heap.size + 1, 0, none⟩) (by simp) (.slice A' (k + 1) c')
        have HOn := Lib.hid (hO3.setc (w.heap.size + 1) 0 (.slice A' (k + 1) c') (by omega))
        generalize hW : w'.setCell ⟨w.heap.size + 1, 0, none⟩ (.slice A' (k + 1) c') = W2 at HB1n HB2n hbn HOn ⊢
        clear hW HBn t1n f1n g1n hO3 hbB t0' g1' hb1 hb1' hs1 t0 f0 HB1 HB2 hb HO hg1 hg2
        have hg2 := HB2n.out.lt
        have hg1 := HB1n.out.lt
        have q3 := HB2n.out.cell 3 (.slice A3 k c3) rfl
        have z3 := HB2n.out.frz 3
        go_upto_region 8 with fail
        go_upto_region 9 with (at_builtin; refine app_in rfl _ _ _ rfl rfl rfl (HOn.out.below (below_al _ _)) _ _ rfl (Box.new W2 _ _) (by simp; omega) (by omega) ?_; intro A'' c'' w3 hO4 hbB2; have HBm := Lib.hid ((HB2n.out.below (below_al _ _)).belowB hbB2 (by omega)); have q3n := HBm.out.cell 3 (.slice A3 k c3) rfl; have z3n := HBm.out.frz 3; have g3n := HBm.out.lt)
        have HB1m := Lib.hid (((HB1n.out.below (below_al _ _)).belowB hbB2 (by omega)).far (w.heap.size + 1) 3 (.slice A'' (k + 1) c'') (by omega))
        have HB2m := Lib.hid (HBm.out.set 3 (.slice A'' (k + 1) c''))
        have hbm := ((below_tr hbn (below_al _ _)).trans (hbB2.mono (by omega))).setCell (p := ⟨w.heap.size + 1, 3, none⟩) (by simp) (.slice A'' (k + 1) c'')
        have HOm := Lib.hid (hO4.setc (w.heap.size + 1) 3 (.slice A'' (k + 1) c'') (by omega))
        generalize hW : w3.setCell ⟨w.heap.size + 1, 3, none⟩ (.slice A'' (k + 1) c'') = W4 at HB1m HB2m hbm HOm ⊢
        clear hW HBm q3n z3n g3n hO4 hbB2 q3 z3 HB1n HB2n hbn HOn hg1 hg2
        have hg2 := HB2m.out.lt
        have hg1 := HB1m.out.lt
        have q4 := HB2m.out.cell 4 (.slice A4 k c4) rfl
        have z4 := HB2m.out.frz 4
        go_wp2_with (at_builtin; refine app_kn rfl _ _ _ rfl rfl rfl (HOm.out.below (below_al _ _)) _ _ rfl (Box.new W4 _ _) (by simp; omega) (by omega) ?_; intro A5 c5 w5 hO5 hbB3; have HBk := Lib.hid ((HB2m.out.below (below_al _ _)).belowB hbB3 (by omega)); have q4n := HBk.out.cell 4 (.slice A4 k c4) rfl; have z4n := HBk.out.frz 4; have g4n := HBk.out.lt)
        go_roundg (gk - 1)
        case rel => exact ⟨k + 1, A', A'', A5, c', c'', c5, by omega, by go_num, Lib.hid (((HB1m.out.below (below_al _ _)).belowB hbB3 (by omega)).far (w.heap.size + 1) 4 _ (by omega)), Lib.hid (HBk.out.set 4 (.slice A5 (k + 1) c5)), ((below_tr hbm (below_al _ _)).trans (hbB3.mono (by omega))).setCell (p := ⟨w.heap.size + 1, 4, none⟩) (by simp) _, Lib.hid (hO5.setc (w.heap.size + 1) 4 _ (by omega))⟩
        case measure => omega
theorem implNewPart_m (w : World) (n l r : Int) : Calls Try.prog 20 #[.int .i64 n, .int .i64 l, .int .i64 r] w ((newPart n l r).Made w) := implNewPart_c w n l r
theorem specNewPart_m (w : World) (n l r : Int) : Calls Try.prog 19 #[.int .i64 n, .int .i64 l, .int .i64 r] w ((newPart n l r).Made w) := specNewPart_c w n l r
theorem newPart_sm (n l r : Int) : (newPart n l r).sm := by
  unfold newPart
  split
  · rename_i h
    simp only [inB, Bool.and_eq_true, decide_eq_true_eq] at h
    unfold Part.sm
    refine ⟨⟨by simp; omega, fun y hy => ?_⟩, by simp [upN_len]; omega, by simp; omega⟩
    obtain rfl := List.eq_of_mem_replicate hy
    simp [nRep, Replica.sm, Log.sm]
  · simp [zPart, Part.sm]
theorem sumF_one {α : Type} (l : List α) : sumF (fun _ => 1) l = l.length := by
  unfold sumF
  induction l with
  | nil => rfl
  | cons x r ih => rw [List.map_cons, List.sum_cons, ih, List.length_cons]; omega
theorem newPart_cnt (n l r : Int) : (newPart n l r).cntV ≤ 1000000 := by
  unfold newPart
  split
  · rename_i h
    simp only [inB, Bool.and_eq_true, decide_eq_true_eq] at h
    unfold Part.cntV
    have h1 : sumF (fun _ => 1) (upN n.toNat) = n.toNat := by rw [sumF_one, upN_len]
    rw [h1]
    simp [sumF, Replica.cnt, nRep]
    omega
  · simp [zPart, Part.cntV, sumF]
end Go.Proofs.Ytenldgbabcjjkaa.H
