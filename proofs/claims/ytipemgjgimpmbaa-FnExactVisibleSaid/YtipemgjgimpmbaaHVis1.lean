/-
The closure of the program's Visible, slices.IndexFunc and slices.ContainsFunc over it. Conditions: each contract's own premises.
-/
import Derived.Test.YtipemgjgimpmbaaHVisP
import Derived.Test.YtipemgjgimpmbaaHBatch2
import Derived.Test.YtipemgjgimpmbaaHRg
namespace Go.Proofs.Ytipemgjgimpmbaa.H
open Go.RowKit Go.Sort Go.BigFrame
set_option linter.unusedVariables false
set_option linter.unusedSimpArgs false
set_option maxRecDepth 100000
set_option maxHeartbeats 4000000 in
theorem visClos_c (w : World) (b : Batch) (g : Gone) (G : Nat) {A6 : Option Addr} {c6 : Nat} (l6 : b.Records.length ≤ c6) (hB : Blk w G #[.int .i64 b.Base, .int .i64 b.Epoch, .int .i64 b.Producer, .int .i64 b.Turn, .int .i64 b.Seq, .int .i64 b.Flags, .slice A6 b.Records.length c6] 52) (h0 : 0 ≤ b.Base) (h1 : b.Base ≤ 1000000000) (hn : b.Records.length ≤ 1048576) :
    Calls Try.prog 82 #[.agg #[.int .i64 g.Producer, .int .i64 g.First, .int .i64 g.Last], .pointer (some ⟨G, 0, none⟩)] w fun e w' => e = .returned (.bool (hitG b g)) ∧ Below w.heap.size w w' := by
  have hu := Try.underlying52
  have hu2 := Try.underlying78
  have HV : Hid (hitG b g = (decide (g.Producer = b.Producer) && (decide (g.First ≤ b.Base) && decide (b.Base + (b.Records.length : Int) - 1 ≤ g.Last)))) := Lib.hid rfl
  generalize hitG b g = v at HV ⊢
  have X := Blk.new w #[.int .i64 g.Producer, .int .i64 g.First, .int .i64 g.Last] 78
  have hb := below_al w (.cells #[.int .i64 g.Producer, .int .i64 g.First, .int .i64 g.Last] 78)
  have B := hB.below hb
  obtain ⟨H, hH⟩ : ∃ n, n = w.heap.size := ⟨_, rfl⟩
  go_enter Try.func82, Try.ntmps82
  go_upto_region 1 with fail
  generalize w.alloc (.cells #[.int .i64 g.Producer, .int .i64 g.First, .int .i64 g.Last] 78) = W1 at X hb B ⊢
  rw [← hH] at X ⊢
  have HH := Lib.hid hH
  clear hH
  have x0 : W1.cell? ⟨H, 0, none⟩ = some (.int .i64 g.Producer) := X.cell 0 _ rfl
  have x1 : W1.cell? ⟨H, 1, none⟩ = some (.int .i64 g.First) := X.cell 1 _ rfl
  have x2 : W1.cell? ⟨H, 2, none⟩ = some (.int .i64 g.Last) := X.cell 2 _ rfl
  have q0 : W1.cell? ⟨G, 0, none⟩ = some (.int .i64 b.Base) := B.cell 0 _ rfl
  have q1 : W1.cell? ⟨G, 1, none⟩ = some (.int .i64 b.Epoch) := B.cell 1 _ rfl
  have q2 : W1.cell? ⟨G, 2, none⟩ = some (.int .i64 b.Producer) := B.cell 2 _ rfl
  have q3 : W1.cell? ⟨G, 3, none⟩ = some (.int .i64 b.Turn) := B.cell 3 _ rfl
  have q4 : W1.cell? ⟨G, 4, none⟩ = some (.int .i64 b.Seq) := B.cell 4 _ rfl
  have q5 : W1.cell? ⟨G, 5, none⟩ = some (.int .i64 b.Flags) := B.cell 5 _ rfl
  have q6 : W1.cell? ⟨G, 6, none⟩ = some (.slice A6 b.Records.length c6) := B.cell 6 _ rfl
  clear X B hB
  generalize hv1 : decide (g.Producer = b.Producer) = b1 at HV
  have hp1 : (g.Producer == b.Producer) = b1 := by rw [← hv1]; rfl
  clear hv1
  have cx0 := cg x0
  have cx1 := cg x1
  have cx2 := cg x2
  have cq0 := cg q0
  have cq1 := cg q1
  have cq2 := cg q2
  have cq3 := cg q3
  have cq4 := cg q4
  have cq5 := cg q5
  have cq6 := cg q6
  cases b1 with
  | false =>
    refine wp_region_quiet_below (by kernel_rfl) (by kernel_rfl) ?_
    repeat (go_big_quiet_step (first | (go_at_call 58; exact rg (lastOf_c _ b l6 h0 h1 hn) rfl)))
    refine wpQuiet_nil ?_
    intro _ hw'
    obtain ⟨pp, hw''⟩ := hw'
    subst hw''
    have hbq := below_regrown W1 pp.d pp.os
    all_goals
      go_wp2
      go_ret
      exact ⟨ret_bool (by rw [HV.out]; simp [*]), below_tr hb hbq⟩
  | true =>
    by_cases hp2 : g.First ≤ b.Base
    · refine wp_region_quiet_below (by kernel_rfl) (by kernel_rfl) ?_
      repeat (go_big_quiet_step (first | (go_at_call 58; exact rg (lastOf_c _ b l6 h0 h1 hn) rfl)))
      refine wpQuiet_nil ?_
      intro _ hw'
      obtain ⟨pp, hw''⟩ := hw'
      subst hw''
      have hbq := below_regrown W1 pp.d pp.os
      all_goals
        go_wp2
        go_ret
        exact ⟨ret_bool (by rw [HV.out]; simp [*]), below_tr hb hbq⟩
    · refine wp_region_quiet_below (by kernel_rfl) (by kernel_rfl) ?_
      repeat (go_big_quiet_step (first | (go_at_call 58; exact rg (lastOf_c _ b l6 h0 h1 hn) rfl)))
      refine wpQuiet_nil ?_
      intro _ hw'
      obtain ⟨pp, hw''⟩ := hw'
      subst hw''
      have hbq := below_regrown W1 pp.d pp.os
      all_goals
        go_wp2
        go_ret
        exact ⟨ret_bool (by rw [HV.out]; simp; omega), below_tr hb hbq⟩
def clos (G : Nat) : Value := .func (.func 82) #[] #[.pointer (some ⟨G, 0, none⟩)]
def idxG (b : Batch) : List Gone → Nat → Int
  | [], _ => -1
  | g :: r, i => if hitG b g = true then i else idxG b r (i + 1)
theorem idxG_cons (b : Batch) (g : Gone) (r : List Gone) (i : Nat) : idxG b (g :: r) i = if hitG b g = true then (i : Int) else idxG b r (i + 1) := by rw [idxG]
theorem idxG_any (b : Batch) : ∀ (l : List Gone) (i : Nat), decide (0 ≤ idxG b l i) = l.any (hitG b)
  | [], i => by simp [idxG]
  | y :: r, i => by
    rw [idxG_cons, List.any_cons]
    cases h : hitG b y with
    | true => simp
    | false => simp only [Bool.false_eq_true, if_false, Bool.false_or]; exact idxG_any b r (i + 1)
set_option maxHeartbeats 4000000 in
theorem visIndex_c (w : World) (b : Batch) (l : List Gone) (G : Nat) {A : Option Addr} {c : Nat} (hl : l.length ≤ c) (hr : Row kGone w A l) (hs : l.length ≤ 1048576) {A6 : Option Addr} {c6 : Nat} (l6 : b.Records.length ≤ c6) (hB : Blk w G #[.int .i64 b.Base, .int .i64 b.Epoch, .int .i64 b.Producer, .int .i64 b.Turn, .int .i64 b.Seq, .int .i64 b.Flags, .slice A6 b.Records.length c6] 52) (h0 : 0 ≤ b.Base) (h1 : b.Base ≤ 1000000000) (hn : b.Records.length ≤ 1048576) :
    Calls Try.prog 111 #[.slice A l.length c, .func (.func 82) #[] #[.pointer (some ⟨G, 0, none⟩)]] w fun e w' => e = .returned (.int .i64 (idxG b l 0)) ∧ Below w.heap.size w w' := by
  generalize hR : idxG b l 0 = R
  have HR := Lib.hid hR
  have HB := Lib.hid hB
  clear hR hB
  have hu2 := Try.underlying26
  have hu := Try.underlying78
  go_enter Try.func111, Try.ntmps111
  go_wp2
  go_loopg [8] l.length (fun g v8 wr => ∃ k : Nat, k + g = l.length ∧ v8 = .int .i64 k ∧ Below w.heap.size w wr ∧ Hid (idxG b (l.drop k) k = R))
  case atStart => exact ⟨0, by omega, rfl, Below.refl _ _, HR⟩
  case round =>
    clear HR
    obtain ⟨k, hk, rfl, hb, HD⟩ := hrel
    by_cases hlt : k < l.length
    case neg =>
      have HE : Hid (-1 = R) := Lib.hid (by have h := HD.out; rw [List.drop_eq_nil_of_le (by omega)] at h; simpa [idxG] using h)
      go_wp2
      go_ret
      exact ⟨ret_int HE.out, hb⟩
    obtain ⟨ad, y, rfl, hx, p0, p1, p2⟩ := Gone.at (Row_below hr hb) k hlt
    have HD2 : Hid ((if hitG b y = true then (k : Int) else idxG b (l.drop (k + 1)) (k + 1)) = R) := Lib.hid (by rw [← idxG_cons, ← drop_cons hx]; exact HD.out)
    clear hx HD
    generalize hh : hitG b y = v at HD2
    have HH := Lib.hid hh
    clear hh
    cases v with
    | true =>
      have HE : Hid ((k : Int) = R) := Lib.hid (by rw [← HD2.out, if_pos rfl])
      go_wp2_with (go_at_call 82; refine (visClos_c _ b y G l6 (HB.out.below hb) h0 h1 hn).mono ?_; rintro e w3 ⟨rfl, hb3⟩; rw [HH.out])
      go_ret
      exact ⟨ret_int HE.out, below_tr hb hb3⟩
    | false =>
      have HE : Hid (idxG b (l.drop (k + 1)) (k + 1) = R) := Lib.hid (by rw [← HD2.out, if_neg (by simp)])
      go_wp2_with (go_at_call 82; refine (visClos_c _ b y G l6 (HB.out.below hb) h0 h1 hn).mono ?_; rintro e w3 ⟨rfl, hb3⟩; rw [HH.out])
      go_roundg (gk - 1)
      case rel => exact ⟨k + 1, by omega, by go_num, below_tr hb hb3, HE⟩
      case measure => omega
theorem visHas_c (w : World) (b : Batch) (l : List Gone) (G : Nat) {A : Option Addr} {c : Nat} (hl : l.length ≤ c) (hr : Row kGone w A l) (hs : l.length ≤ 1048576) {A6 : Option Addr} {c6 : Nat} (l6 : b.Records.length ≤ c6) (hB : Blk w G #[.int .i64 b.Base, .int .i64 b.Epoch, .int .i64 b.Producer, .int .i64 b.Turn, .int .i64 b.Seq, .int .i64 b.Flags, .slice A6 b.Records.length c6] 52) (h0 : 0 ≤ b.Base) (h1 : b.Base ≤ 1000000000) (hn : b.Records.length ≤ 1048576) :
    Calls Try.prog 81 #[.slice A l.length c, .func (.func 82) #[] #[.pointer (some ⟨G, 0, none⟩)]] w fun e w' => e = .returned (.bool (l.any (hitG b))) ∧ Below w.heap.size w w' := by
  rw [← idxG_any b l 0]
  go_enter Try.func81, Try.ntmps81
  go_wp2_with (go_at_call 111; refine (visIndex_c _ b l G hl hr hs l6 hB h0 h1 hn).mono ?_; rintro e w3 ⟨rfl, hb3⟩)
  go_ret
  exact ⟨rfl, hb3⟩
end Go.Proofs.Ytipemgjgimpmbaa.H
