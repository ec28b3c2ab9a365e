/-
Which records go: no program in sight; the reference's l4Args and l4Goes. Conditions: each contract's own premises.
-/
import Derived.Test.YtiefpllmnmmdlaaHLog2
import Derived.Test.YtiefpllmnmmdlaaHAll2
import Derived.Test.YtiefpllmnmmdlaaHFacts
import Derived.Test.YtiefpllmnmmdlaaHTxP
namespace Go.Proofs.Ytiefpllmnmmdlaa.H
open Go.RowKit
set_option linter.unusedVariables false
set_option linter.unusedSimpArgs false
set_option maxRecDepth 100000
def eligF (tt : Int) (b : Batch) (n : Nat) (r : Record) : Bool := decide (b.Base + n < tt) && decide (b.Flags < 4) && r.Keyed
/-- The keys of a batch's records that count, from place n on. -/
def kB (tt : Int) (b : Batch) : List Record → Nat → List ByteArray
  | [], _ => []
  | r :: rs, n => (if eligF tt b n r then [r.Key] else []) ++ kB tt b rs (n + 1)
def kL (tt : Int) : List Batch → List ByteArray
  | [] => []
  | b :: bs => kB tt b b.Records 0 ++ kL tt bs
def hitF (ks : List ByteArray) (key : ByteArray) : Bool := ks.any (fun q => q.toList == key.toList)
def oldF (cut : Int) (r : Record) : Bool := r.Gone && decide (r.Time < cut)
def goesF (tt cut : Int) (b : Batch) (rest : List ByteArray) (n : Nat) (r : Record) : Bool := eligF tt b n r && (hitF rest r.Key || oldF cut r)
def curK (tt : Int) (L : List Batch) (i k j : Nat) : List ByteArray := match L[j]? with
  | none => []
  | some b => kB tt b (b.Records.drop (if j = i then k + 1 else 0)) (if j = i then k + 1 else 0)
theorem kB_step {tt : Int} {b : Batch} {n : Nat} {x : Record} {l : List Record} (h : l[n]? = some x) : kB tt b (l.drop n) n = (if eligF tt b n x then [x.Key] else []) ++ kB tt b (l.drop (n + 1)) (n + 1) := by
  obtain ⟨hk, rfl⟩ := List.getElem?_eq_some_iff.1 h
  rw [List.drop_eq_getElem_cons hk]
  rfl
theorem kL_step {tt : Int} {L : List Batch} {j : Nat} {b : Batch} (h : L[j]? = some b) : kL tt (L.drop j) = kB tt b b.Records 0 ++ kL tt (L.drop (j + 1)) := by
  obtain ⟨hk, rfl⟩ := List.getElem?_eq_some_iff.1 h
  rw [List.drop_eq_getElem_cons hk]
  rfl
theorem cur_next {tt : Int} {L : List Batch} {i k j : Nat} (h : i ≤ j) : kL tt (L.drop (j + 1)) = curK tt L i k (j + 1) ++ kL tt (L.drop (j + 1 + 1)) := by
  unfold curK
  cases hb : L[j + 1]? with
  | none =>
    have hl : L.length ≤ j + 1 := by rw [List.getElem?_eq_none_iff] at hb; exact hb
    rw [List.drop_eq_nil_of_le hl, List.drop_eq_nil_of_le (by omega)]
    rfl
  | some b =>
    rw [kL_step hb]
    simp [show ¬ (j + 1 = i) by omega]
theorem hit_app (a b : List ByteArray) (key : ByteArray) : hitF (a ++ b) key = (hitF a key || hitF b key) := by simp [hitF]
def argsF (x : Log) (tt now keep : Int) : Bool := logOk x && inB tt x.Start x.Next && inB now 0 1000000000000 && inB keep 0 1000000000000
set_option maxHeartbeats 4000000 in
theorem l4Args_c (w : World) (x : Log) (tt now keep : Int) {A3 : Option Addr} {c3 : Nat} (l3 : x.Segments.length ≤ c3) (g3 : Row kSegment w A3 x.Segments) (hs : x.sm) (hw : x.wf) :
    Calls Try.prog 18 #[.agg #[.int .i64 x.Start, .int .i64 x.Next, .int .i64 x.Roll, .slice A3 x.Segments.length c3], .int .i64 tt, .int .i64 now, .int .i64 keep] w fun e w' => e = .returned (.bool (argsF x tt now keep)) ∧ Below w.heap.size w w' := by
  unfold argsF
  have HS := Lib.hid hs
  have HW := Lib.hid hw
  clear hs hw
  generalize hok : logOk x = ok
  have Hok := Lib.hid hok
  clear hok
  generalize hi1 : inB tt x.Start x.Next = i1
  have I1 := Lib.hid hi1
  clear hi1
  generalize hi2 : inB now 0 1000000000000 = i2
  have I2 := Lib.hid hi2
  clear hi2
  generalize hi3 : inB keep 0 1000000000000 = i3
  have I3 := Lib.hid hi3
  clear hi3
  go_enter Try.func18, Try.ntmps18
  have hla : ∀ (W : World) (a b c : Int) (v : Bool), inB a b c = v → Calls Try.prog 37 #[.int .i64 a, .int .i64 b, .int .i64 c] W fun e w' => e = .returned (.bool v) ∧ W = w' := fun W a b c v h => by rw [← h]; exact l1In_c a b c W
  have HLA := Lib.hid hla
  clear hla
  cases ok <;> cases i1 <;> cases i2 <;> cases i3
  all_goals
    go_wp2_with (first
      | (go_at_call 30; refine (specLogOk_c _ x l3 (Row_below g3 (below_al _ _)) HS.out HW.out).mono ?_; rintro e w1 ⟨rfl, hb1⟩; rw [Hok.out]; have X := (Box.new w _ _).later hb1; have z0 := X 0 _ rfl; have z1 := X 1 _ rfl; clear X)
      | (go_at_call 37; with_reducible refine (HLA.out _ _ _ _ _ I1.out).mono ?_; rintro e w' ⟨rfl, rfl⟩)
      | (go_at_call 37; with_reducible refine (HLA.out _ _ _ _ _ I2.out).mono ?_; rintro e w' ⟨rfl, rfl⟩)
      | (go_at_call 37; with_reducible refine (HLA.out _ _ _ _ _ I3.out).mono ?_; rintro e w' ⟨rfl, rfl⟩))
    go_ret
    exact ⟨rfl, below_tr (below_al _ _) hb1⟩
end Go.Proofs.Ytiefpllmnmmdlaa.H
