/-
The program's and the reference's Aborted answer aborted. Conditions: each contract's own premises.
-/
import Derived.Test.YtipemgjgimpmbaaHTx4
namespace Go.Proofs.Ytipemgjgimpmbaa.H
open Go.RowKit
set_option linter.unusedVariables false
set_option linter.unusedSimpArgs false
set_option maxRecDepth 100000
def aborted (x : Log) : List Gone := if logOk x = true then (txF (allB x)).2 else []
theorem aborted_len (x : Log) : (aborted x).length ≤ 400 := by
  unfold aborted
  split
  · have hT := txF_len (allB x) (allB x).length
    rw [List.take_length] at hT
    have := (fOk_all (by assumption)).1
    omega
  · simp
set_option maxHeartbeats 4000000 in
theorem implAborted_c (w : World) (x : Log) {A3 : Option Addr} {c3 : Nat} (l3 : x.Segments.length ≤ c3) (g3 : Row kSegment w A3 x.Segments) (hs : x.sm) :
    Calls Try.prog 12 #[.agg #[.int .i64 x.Start, .int .i64 x.Next, .int .i64 x.Roll, .slice A3 x.Segments.length c3]] w (MadeS kGone 78 (aborted x) w) := by
  unfold aborted
  have HS := Lib.hid hs
  have hlen := hs.1
  clear hs
  generalize hok : logOk x = ok
  have Hok := Lib.hid hok
  clear hok
  cases ok with
  | false =>
    go_enter Try.func12, Try.ntmps12
    go_wp2_with (go_at_call 46; refine (implLogOk_c _ x l3 (Row_below g3 (below_al _ _)) HS.out).mono ?_; rintro e w' ⟨rfl, hb2⟩; rw [Hok.out])
    go_ret
    exact ⟨_, [], rfl, TS_nil, Fresh.nil _, below_tr (below_al _ _) hb2⟩
  | true =>
    go_enter Try.func12, Try.ntmps12
    go_upto_region 3 with (go_at_call 46; refine (implLogOk_c _ x l3 (Row_below g3 (below_al _ _)) HS.out).mono ?_; rintro e w1 ⟨rfl, hb1⟩; rw [Hok.out]; have X := (Box.new w _ _).later hb1; have z0 := X 0 _ rfl; have z1 := X 1 _ rfl; have z2 := X 2 _ rfl; have z3 := X 3 _ rfl; have hgz := X.lt rfl; have HX := Lib.hid X; clear X)
    go_wp2_with (go_at_call 47; refine (implTx_c _ x l3 (Row_below (Row_below g3 (below_al _ _)) hb1) HS.out Hok.out).mono ?_; rintro e w2 ⟨bm, D, v4, rfl, hown, hT, hO, hb2⟩)
    go_ret
    have hbb := below_tr (below_al _ _) hb1
    obtain ⟨F, h1, h2⟩ := hO.fresh
    exact ⟨_, F, rfl, h1, h2.mono hbb.size, below_tr hbb hb2⟩
set_option maxHeartbeats 4000000 in
theorem specAborted_c (w : World) (x : Log) {A3 : Option Addr} {c3 : Nat} (l3 : x.Segments.length ≤ c3) (g3 : Row kSegment w A3 x.Segments) (hs : x.sm) (hw : x.wf) :
    Calls Try.prog 10 #[.agg #[.int .i64 x.Start, .int .i64 x.Next, .int .i64 x.Roll, .slice A3 x.Segments.length c3]] w (GivesK kGone (aborted x) w) := by
  unfold aborted
  have HS := Lib.hid hs
  have HW := Lib.hid hw
  have hlen := hs.1
  clear hs hw
  generalize hok : logOk x = ok
  have Hok := Lib.hid hok
  clear hok
  cases ok with
  | false =>
    go_enter Try.func10, Try.ntmps10
    go_wp2_with (go_at_call 42; refine (specLogOk_c _ x l3 (Row_below g3 (below_al _ _)) HS.out HW.out).mono ?_; rintro e w' ⟨rfl, hb2⟩; rw [Hok.out])
    go_ret
    exact ⟨_, 0, rfl, Nat.le_refl _, fun h => absurd h (Nat.lt_irrefl _), below_tr (below_tr (below_al _ _) hb2) (below_al _ _)⟩
  | true =>
    have HA := Lib.hid (fOk_all Hok.out)
    have hllA := HA.out.1
    generalize hL : allB x = L at HA hllA ⊢
    have HL := Lib.hid hL
    clear hL
    go_enter Try.func10, Try.ntmps10
    go_upto_region 3 with (go_at_call 42; refine (specLogOk_c _ x l3 (Row_below g3 (below_al _ _)) HS.out HW.out).mono ?_; rintro e w1 ⟨rfl, hb1⟩; rw [Hok.out]; have X := (Box.new w _ _).later hb1; have z0 := X 0 _ rfl; have z1 := X 1 _ rfl; have z2 := X 2 _ rfl; have z3 := X 3 _ rfl; have hgz := X.lt rfl; have HX := Lib.hid X; clear X)
    go_wp2_with (first
      | (go_at_call 44; refine (l3All_c _ x l3 (Row_below (Row_below g3 (below_al _ _)) hb1) hlen (by rw [HL.out]; omega)).mono ?_; rw [HL.out]; rintro e w2 ⟨A, c, rfl, hc, hr, hb2⟩)
      | (go_at_call 43; refine (l8Open_c _ L hc hr hllA HA.out.2).mono ?_; rintro e w3 ⟨v1, v2, rfl, hK1, hK2, hb3⟩; obtain ⟨A1, c1, rfl, hc1, hr1⟩ := hK1.flatRead gone_flat; obtain ⟨A2, c2, rfl, hc2, hr2⟩ := hK2.flatRead gone_flat))
    have hb := below_tr (below_tr (below_tr (below_al _ _) hb1) hb2) hb3
    go_ret
    exact ⟨_, _, rfl, hc2, hr2, hb⟩
end Go.Proofs.Ytipemgjgimpmbaa.H
