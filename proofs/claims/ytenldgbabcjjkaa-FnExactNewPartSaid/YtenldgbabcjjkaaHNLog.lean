/-
NewLog, the program's and the reference's. Conditions: each contract's own premises.
-/
import Derived.Test.YtenldgbabcjjkaaHSmall
namespace Go.Proofs.Ytenldgbabcjjkaa.H
open Go.RowKit
set_option linter.unusedVariables false
set_option linter.unusedSimpArgs false
set_option maxRecDepth 100000
def newLog (start roll : Int) : Log := if inB start 0 1000000000 && inB roll 1 20000 then ⟨start, start, roll, []⟩ else zLog
theorem newLog_sm (s r : Int) : (newLog s r).sm := by unfold newLog; split <;> simp [Log.sm, zLog]
theorem newLog_segs (s r : Int) : (newLog s r).Segments = [] := by unfold newLog; split <;> rfl
theorem specNewLog_c (w : World) (s r : Int) : Calls Try.prog 51 #[.int .i64 s, .int .i64 r] w fun e w' => e = .returned (.agg #[.int .i64 (newLog s r).Start, .int .i64 (newLog s r).Next, .int .i64 (newLog s r).Roll, .slice none 0 0]) ∧ Below w.heap.size w w' := by
  unfold newLog
  generalize h1 : inB s 0 1000000000 = b1
  generalize h2 : inB r 1 20000 = b2
  have H1 := Lib.hid h1
  have H2 := Lib.hid h2
  clear h1 h2
  cases b1 <;> cases b2
  all_goals
    go_enter Try.func51, Try.ntmps51
    go_wp2_with (go_at_call 50; refine (l1In_c _ _ _ _).mono ?_; rintro e w' ⟨rfl, rfl⟩; first | rw [H1.out] | rw [H2.out])
  · exact bodyPost_ret (v := .agg #[.int .i64 0, .int .i64 0, .int .i64 0, .slice none 0 0]) (by simp [results, Try.results51, go_sem]) rfl ⟨rfl, below_al _ _⟩
  · exact bodyPost_ret (v := .agg #[.int .i64 0, .int .i64 0, .int .i64 0, .slice none 0 0]) (by simp [results, Try.results51, go_sem]) rfl ⟨rfl, below_al _ _⟩
  · exact bodyPost_ret (v := .agg #[.int .i64 0, .int .i64 0, .int .i64 0, .slice none 0 0]) (by simp [results, Try.results51, go_sem]) rfl ⟨rfl, below_al _ _⟩
  · exact bodyPost_ret (v := .agg #[.int .i64 s, .int .i64 s, .int .i64 r, .slice none 0 0]) (by simp [results, Try.results51, go_sem]) rfl ⟨rfl, below_al _ _⟩
theorem implNewLog_c (w : World) (s r : Int) : Calls Try.prog 53 #[.int .i64 s, .int .i64 r] w fun e w' => e = .returned (.agg #[.int .i64 (newLog s r).Start, .int .i64 (newLog s r).Next, .int .i64 (newLog s r).Roll, .slice none 0 0]) ∧ Below w.heap.size w w' := by
  unfold newLog
  generalize h1 : inB s 0 1000000000 = b1
  generalize h2 : inB r 1 20000 = b2
  have H1 := Lib.hid h1
  have H2 := Lib.hid h2
  clear h1 h2
  cases b1 <;> cases b2
  all_goals
    go_enter Try.func53, Try.ntmps53
    go_wp2_with (first | (go_at_call 91; refine (offsetOk_c _ _).mono ?_; rintro e w' ⟨rfl, rfl⟩; rw [H1.out]) | (go_at_call 52; refine (within_c _ _ _ _).mono ?_; rintro e w' ⟨rfl, rfl⟩; rw [H2.out]))
  · exact bodyPost_ret (v := .agg #[.int .i64 0, .int .i64 0, .int .i64 0, .slice none 0 0]) (by simp [results, Try.results53, go_sem]) rfl ⟨rfl, below_al _ _⟩
  · exact bodyPost_ret (v := .agg #[.int .i64 0, .int .i64 0, .int .i64 0, .slice none 0 0]) (by simp [results, Try.results53, go_sem]) rfl ⟨rfl, below_al _ _⟩
  · exact bodyPost_ret (v := .agg #[.int .i64 0, .int .i64 0, .int .i64 0, .slice none 0 0]) (by simp [results, Try.results53, go_sem]) rfl ⟨rfl, below_al _ _⟩
  · exact bodyPost_ret (v := .agg #[.int .i64 s, .int .i64 s, .int .i64 r, .slice none 0 0]) (by simp [results, Try.results53, go_sem]) rfl ⟨rfl, below_al _ _⟩
end Go.Proofs.Ytenldgbabcjjkaa.H
