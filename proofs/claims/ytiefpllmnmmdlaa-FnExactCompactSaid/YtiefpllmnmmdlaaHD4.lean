/-
The program's Dirt, from a contract of goes. Conditions: each contract's own premises.
-/
import Derived.Test.YtiefpllmnmmdlaaHD3P
import Derived.Test.YtiefpllmnmmdlaaHLog1
namespace Go.Proofs.Ytiefpllmnmmdlaa.H
open Go.RowKit
set_option linter.unusedVariables false
set_option linter.unusedSimpArgs false
set_option maxRecDepth 100000
def rowF (tt cut : Int) (b : Batch) (T : List ByteArray) : List Record → Nat → List Bool
  | [], _ => []
  | r :: rs, n => goesF tt cut b (kB tt b rs (n + 1) ++ T) n r :: rowF tt cut b T rs (n + 1)
def matF (tt cut : Int) : List Batch → List (List Bool)
  | [] => []
  | b :: bs => rowF tt cut b (kL tt bs) b.Records 0 :: matF tt cut bs
theorem rowF_len (tt cut : Int) (b : Batch) (T : List ByteArray) : ∀ (rs : List Record) (n : Nat), (rowF tt cut b T rs n).length = rs.length
  | [], _ => rfl
  | r :: rs, n => by rw [rowF, List.length_cons, rowF_len tt cut b T rs, List.length_cons]
theorem matF_len (tt cut : Int) : ∀ L : List Batch, (matF tt cut L).length = L.length
  | [] => rfl
  | b :: bs => by rw [matF, List.length_cons, matF_len tt cut bs, List.length_cons]
theorem rowF_get (tt cut : Int) (b : Batch) (T : List ByteArray) : ∀ (rs : List Record) (n k : Nat) (y : Record), rs[k]? = some y → (rowF tt cut b T rs n)[k]? = some (goesF tt cut b (kB tt b (rs.drop (k + 1)) (n + k + 1) ++ T) (n + k) y)
  | [], _, _, _, h => by simp at h
  | r :: rs, n, 0, y, h => by simp at h; subst h; rfl
  | r :: rs, n, k + 1, y, h => by
    rw [rowF, List.getElem?_cons_succ, rowF_get tt cut b T rs (n + 1) k y (by simpa using h), List.drop_succ_cons, show n + 1 + k = n + (k + 1) by omega]
theorem matF_get (tt cut : Int) : ∀ (L : List Batch) (i : Nat) (b : Batch), L[i]? = some b → (matF tt cut L)[i]? = some (rowF tt cut b (kL tt (L.drop (i + 1))) b.Records 0)
  | [], _, _, h => by simp at h
  | c :: L, 0, b, h => by simp at h; subst h; rfl
  | c :: L, i + 1, b, h => by rw [matF, List.getElem?_cons_succ, matF_get tt cut L i b (by simpa using h), List.drop_succ_cons]
theorem boolAt {w : World} {A : Option Addr} {xs : List Bool} (h : Row Ki.bool w A xs) {i : Nat} {x : Bool} (hx : xs[i]? = some x) : ∃ ad, A = some ad ∧ w.cell? (ad.add i) = some (.bool x) := by
  obtain ⟨hi, rfl⟩ := List.getElem?_eq_some_iff.1 hx
  obtain ⟨ad, y, cs, rfl, hy, hk, hc⟩ := Row_get h i hi
  have hk' : cs = [.bool y] := hk
  subst hk'
  rw [List.getElem?_eq_getElem hi] at hy
  cases hy
  refine ⟨ad, rfl, ?_⟩
  have := hc 0 _ rfl
  simpa [show Ki.bool.sz = 1 from rfl] using this
theorem boolsAt {w : World} {A : Option Addr} {xs : List (List Bool)} (h : Row (Ki.slice 4 Ki.bool) w A xs) {i : Nat} {l : List Bool} (hx : xs[i]? = some l) : ∃ ad A1 c1, A = some ad ∧ w.cell? (ad.add i) = some (.slice A1 l.length c1) ∧ l.length ≤ c1 ∧ Row Ki.bool w A1 l := by
  obtain ⟨hi, rfl⟩ := List.getElem?_eq_some_iff.1 hx
  obtain ⟨ad, y, cs, rfl, hy, hk, hc⟩ := Row_get h i hi
  obtain ⟨A1, c1, rfl, hl, hr⟩ := hk
  rw [List.getElem?_eq_getElem hi] at hy
  cases hy
  refine ⟨ad, A1, c1, rfl, ?_, hl, hr⟩
  have := hc 0 _ rfl
  simpa [show (Ki.slice 4 Ki.bool).sz = 1 from rfl] using this
/-- The contract of goes. -/
def GoesC : Prop := ∀ (w : World) (L : List Batch) (A : Option Addr) (c : Nat), L.length ≤ c → Row kBatch w A L → L.length ≤ 400 → (∀ b ∈ L, fOk b) → (∀ b ∈ L, b.sm) → ∀ (tt now keep : Int), (0 ≤ now ∧ now ≤ 1000000000000) → (0 ≤ keep ∧ keep ≤ 1000000000000) →
  Calls Try.prog 24 #[.slice A L.length c, .int .i64 tt, .int .i64 now, .int .i64 keep] w fun e w' => ∃ B d, e = .returned (.slice B L.length d) ∧ L.length ≤ d ∧ Row (Ki.slice 4 Ki.bool) w' B (matF tt (now - keep) L) ∧ Below w.heap.size w w'
theorem all_sm {x : Log} (h : x.sm) : ∀ b ∈ allB x, b.sm := fun b hb => by
  unfold allB at hb
  obtain ⟨s, hs, hb⟩ := List.mem_flatMap.1 hb
  exact (h.2 s hs).2 b hb
theorem inLog_c (w : World) (x : Log) (tt : Int) {A3 : Option Addr} {c3 : Nat} (l3 : x.Segments.length ≤ c3) (g3 : Row kSegment w A3 x.Segments) (hs : x.sm) :
    Calls Try.prog 39 #[.agg #[.int .i64 x.Start, .int .i64 x.Next, .int .i64 x.Roll, .slice A3 x.Segments.length c3], .int .i64 tt] w fun e w' => e = .returned (.bool (logOk x && inB tt x.Start x.Next)) ∧ Below w.heap.size w w' := by
  have HS := Lib.hid hs
  clear hs
  generalize hok : logOk x = ok
  have Hok := Lib.hid hok
  clear hok
  go_enter Try.func39, Try.ntmps39
  cases ok
  all_goals
    go_wp2_with (go_at_call 31; refine (implLogOk_c _ x l3 (Row_below g3 (below_al _ _)) HS.out).mono ?_; rintro e w1 ⟨rfl, hb1⟩; rw [Hok.out]; have X := (Box.new w _ _).later hb1; have z0 := X 0 _ rfl; have z1 := X 1 _ rfl; clear X)
    all_goals (go_ret; exact ⟨ret_bool (by simp [inB]; try omega), below_tr (below_al _ _) hb1⟩)
theorem compactable_c (w : World) (x : Log) (tt now keep : Int) {A3 : Option Addr} {c3 : Nat} (l3 : x.Segments.length ≤ c3) (g3 : Row kSegment w A3 x.Segments) (hs : x.sm) :
    Calls Try.prog 22 #[.agg #[.int .i64 x.Start, .int .i64 x.Next, .int .i64 x.Roll, .slice A3 x.Segments.length c3], .int .i64 tt, .int .i64 now, .int .i64 keep] w fun e w' => e = .returned (.bool (argsF x tt now keep)) ∧ Below w.heap.size w w' := by
  unfold argsF
  have HS := Lib.hid hs
  clear hs
  generalize hok : (logOk x && inB tt x.Start x.Next) = ok
  have Hok := Lib.hid hok
  clear hok
  generalize hi2 : inB now 0 1000000000000 = i2
  have I2 := Lib.hid hi2
  clear hi2
  generalize hi3 : inB keep 0 1000000000000 = i3
  have I3 := Lib.hid hi3
  clear hi3
  have hla : ∀ (W : World) (a : Int) (v : Bool), inB a 0 1000000000000 = v → Calls Try.prog 40 #[.int .i64 a] W fun e w' => e = .returned (.bool v) ∧ W = w' := fun W a v h => by rw [← h]; exact timeOk_c a W
  have HLA := Lib.hid hla
  clear hla
  go_enter Try.func22, Try.ntmps22
  cases ok <;> cases i2 <;> cases i3
  all_goals
    go_wp2_with (first
      | (go_at_call 39; refine (inLog_c _ x tt l3 (Row_below g3 (below_al _ _)) HS.out).mono ?_; rintro e w1 ⟨rfl, hb1⟩; rw [Hok.out])
      | (go_at_call 40; with_reducible refine (HLA.out _ _ _ I2.out).mono ?_; rintro e w' ⟨rfl, rfl⟩)
      | (go_at_call 40; with_reducible refine (HLA.out _ _ _ I3.out).mono ?_; rintro e w' ⟨rfl, rfl⟩))
    go_ret
    exact ⟨rfl, below_tr (below_al _ _) hb1⟩
end Go.Proofs.Ytiefpllmnmmdlaa.H
