/-
EndOf, the program's and the reference's, answer endAns. Conditions: each contract's own premises.
-/
import Derived.Test.YtjbcgflpeomkfaaHEnd
namespace Go.Proofs.Ytjbcgflpeomkfaa.H
open Go.RowKit
set_option linter.unusedVariables false
set_option linter.unusedSimpArgs false
set_option maxRecDepth 100000
def endAns (x : Log) (ep : Int) : Int × Int := if logOk x = true then endOf x ep else (0, 0)
set_option maxHeartbeats 4000000 in
theorem implEndOf_c (w : World) (x : Log) (ep : Int) {A3 : Option Addr} {c3 : Nat} (l3 : x.Segments.length ≤ c3) (g3 : Row kSegment w A3 x.Segments) (hs : x.sm) :
    Calls Try.prog 22 #[.agg #[.int .i64 x.Start, .int .i64 x.Next, .int .i64 x.Roll, .slice A3 x.Segments.length c3], .int .i64 ep] w fun e w' => e = .returned (.tuple #[.int .i64 (endAns x ep).1, .int .i64 (endAns x ep).2]) ∧ Below w.heap.size w w' := by
  have hlen := hs.1
  have HS := Lib.hid hs
  clear hs
  generalize hR : endAns x ep = R
  by_cases hok : logOk x = true
  case neg =>
    have HR : Hid ((0, 0) = R) := Lib.hid (by rw [← hR]; unfold endAns; rw [if_neg hok])
    have Hok := Lib.hid (show logOk x = false by simpa using hok)
    clear hR hok
    go_enter Try.func22, Try.ntmps22
    go_wp2_with (go_at_call 19; refine (implLogOk_c _ x l3 (Row_below g3 (below_al _ _)) HS.out).mono ?_; rintro e w1 ⟨rfl, hb1⟩; rw [Hok.out])
    go_ret2
    exact ⟨by rw [← HR.out]; rfl, below_tr (below_al _ _) hb1⟩
  have HR : Hid (endOf x ep = R) := Lib.hid (by rw [← hR]; unfold endAns; rw [if_pos hok])
  have Hok := Lib.hid hok
  have HA := Lib.hid (logOk_all hok)
  clear hR hok
  go_enter Try.func22, Try.ntmps22
  go_upto_region 3 with (go_at_call 19; refine (implLogOk_c _ x l3 (Row_below g3 (below_al _ _)) HS.out).mono ?_; rintro e w1 ⟨rfl, hb1⟩; rw [Hok.out]; have X := (Box.new w _ _).later hb1; have z0 := X 0 _ rfl; have z1 := X 1 _ rfl; have z2 := X 2 _ rfl; have z3 := X 3 _ rfl; have hgz := X.lt rfl; have HX := Lib.hid X; clear X)
  go_wp2_with (go_at_call 42; refine (endOf_c _ x ep l3 (Row_below (Row_below g3 (below_al _ _)) hb1) hlen HA.out.1).mono ?_; rintro e w2 ⟨rfl, hb2⟩; rw [HR.out])
  go_ret2
  exact ⟨rfl, below_tr (below_tr (below_al _ _) hb1) hb2⟩
set_option maxHeartbeats 4000000 in
theorem specEndOf_c (w : World) (x : Log) (ep : Int) {A3 : Option Addr} {c3 : Nat} (l3 : x.Segments.length ≤ c3) (g3 : Row kSegment w A3 x.Segments) (hs : x.sm) (hw : x.wf) :
    Calls Try.prog 21 #[.agg #[.int .i64 x.Start, .int .i64 x.Next, .int .i64 x.Roll, .slice A3 x.Segments.length c3], .int .i64 ep] w fun e w' => e = .returned (.tuple #[.int .i64 (endAns x ep).1, .int .i64 (endAns x ep).2]) ∧ Below w.heap.size w w' := by
  have hlen := hs.1
  have HS := Lib.hid hs
  have HW := Lib.hid hw
  have hu3 := Try.underlying29
  have hu4 := Try.underlying62
  clear hs hw
  generalize hR : endAns x ep = R
  by_cases hok : logOk x = true
  case neg =>
    have HR : Hid ((0, 0) = R) := Lib.hid (by rw [← hR]; unfold endAns; rw [if_neg hok])
    have Hok := Lib.hid (show logOk x = false by simpa using hok)
    clear hR hok
    go_enter Try.func21, Try.ntmps21
    go_wp2_with (go_at_call 17; refine (specLogOk_c _ x l3 (Row_below g3 (below_al _ _)) HS.out HW.out).mono ?_; rintro e w1 ⟨rfl, hb1⟩; rw [Hok.out])
    go_ret2
    exact ⟨by rw [← HR.out]; rfl, below_tr (below_al _ _) hb1⟩
  have HR0 : Hid (endOf x ep = R) := Lib.hid (by rw [← hR]; unfold endAns; rw [if_pos hok])
  have Hok := Lib.hid hok
  have HA := Lib.hid (logOk_all hok)
  clear hR hok
  have HR : Hid (∀ T, endG ep x.Next (allB x) none = T → R = match T with | (some f, e) => (f, e) | (none, _) => (0, x.Start)) := Lib.hid (fun T h => by rw [← h, ← HR0.out]; rfl)
  have hllA := HA.out.1
  generalize hL : allB x = L at HA HR hllA
  have HL := Lib.hid hL
  clear hL
  have hll : L.length ≤ 400 := hllA
  clear hllA
  go_enter Try.func21, Try.ntmps21
  go_upto_region 3 with (go_at_call 17; refine (specLogOk_c _ x l3 (Row_below g3 (below_al _ _)) HS.out HW.out).mono ?_; rintro e w1 ⟨rfl, hb1⟩; rw [Hok.out]; have X := (Box.new w _ _).later hb1; have z0 := X 0 _ rfl; have z1 := X 1 _ rfl; have z2 := X 2 _ rfl; have z3 := X 3 _ rfl; have hgz := X.lt rfl; have HX := Lib.hid X; clear X)
  go_upto_region 4 with (go_at_call 41; refine (l3All_c _ x l3 (Row_below (Row_below g3 (below_al _ _)) hb1) hlen (by rw [HL.out]; omega)).mono ?_; rw [HL.out]; rintro e w2 ⟨A, c, rfl, hc, hr, hb2⟩; replace z0 := later hb2 z0; replace z1 := later hb2 z1)
  have hb := below_tr (below_tr (below_al _ _) hb1) hb2
  have hgz2 : w.heap.size < w2.heap.size := World.block_lt_of_cell? w2 _ z0
  clear hb1 hb2 HX z2 z3 hgz
  generalize hT : endG ep x.Next L none = T
  have HT := Lib.hid hT
  clear hT
  have HR2 := Lib.hid (HR.out T HT.out)
  clear HR
  go_quiet (fail)
  go_upto_region 6 with fail
  go_loopg [7, 8, 9] L.length (fun g v7 v8 v9 wr => ∃ (k : Nat) (f : Option Int), k + g = L.length ∧ v9 = .int .i64 k ∧ v7 = .int .i64 (f.getD (-1)) ∧ (∀ q, f = some q → 0 ≤ q) ∧ v8 = .int .i64 x.Next ∧ wr.cell? ⟨w.heap.size, 0, none⟩ = some (.int .i64 x.Start) ∧ Below w.heap.size w wr ∧ Row kBatch wr A L ∧ Hid (endG ep x.Next (L.drop k) f = T))
  case atStart => exact ⟨0, none, by omega, rfl, rfl, by simp, rfl, by simpa using z0, below_dn hb _, Row_below hr (below_dn (Below.refl _ _) _), HT⟩
  case round =>
    clear z0 z1 hb hr HT hgz2
    obtain ⟨k, f, hk, rfl, rfl, hf, rfl, z0, hb, hr, HD⟩ := hrel
    have HF := Lib.hid hf
    clear hf
    have hgz : w.heap.size < wr.heap.size := World.block_lt_of_cell? wr _ z0
    by_cases hlt : k < L.length
    case neg =>
      have HE : Hid ((f, x.Next) = T) := Lib.hid (by have h := HD.out; rw [List.drop_eq_nil_of_le (by omega)] at h; simpa [endG] using h)
      cases f with
      | none =>
        go_upto_region 12 with fail
        go_quiet (fail)
        go_wp2
        go_ret2
        exact ⟨by rw [HR2.out, ← HE.out]; rfl, below_dn hb _⟩
      | some f =>
        have hq := HF.out f rfl
        go_wp2
        go_ret2
        exact ⟨by rw [HR2.out, ← HE.out]; rfl, hb⟩
    obtain ⟨bd, b, A6, c6, rfl, hbx, r0, r1, r2, r3, r4, r5, r6, l6, g6⟩ := Batch.at hr k hlt
    have HE0 := Lib.hid (lastB_ge (HA.out.2 b (List.mem_of_getElem? hbx))).2.2.2.2
    have HX := Lib.hid (drop_cons hbx)
    clear hbx
    have HD2 : Hid ((if ep < b.Epoch then (f, b.Base) else endG ep x.Next (L.drop (k + 1)) (some b.Epoch)) = T) := Lib.hid (by rw [← HD.out, HX.out]; simp only [endG])
    clear HD HX
    by_cases hcc : ep < b.Epoch
    · have HE : Hid ((f, b.Base) = T) := Lib.hid (by rw [← HD2.out, if_pos hcc])
      cases f with
      | none =>
        go_upto_region 12 with fail
        go_quiet (fail)
        go_wp2
        go_ret2
        exact ⟨by rw [HR2.out, ← HE.out]; rfl, below_dn hb _⟩
      | some f =>
        have hq := HF.out f rfl
        go_wp2
        go_ret2
        exact ⟨by rw [HR2.out, ← HE.out]; rfl, hb⟩
    · have HE : Hid (endG ep x.Next (L.drop (k + 1)) (some b.Epoch) = T) := Lib.hid (by rw [← HD2.out, if_neg hcc])
      go_wp2
      go_roundg (gk - 1)
      case rel => exact ⟨k + 1, some b.Epoch, by omega, by go_num, rfl, fun q hq => by cases hq; exact HE0.out, rfl, z0, hb, hr, HE⟩
      case measure => omega
end Go.Proofs.Ytjbcgflpeomkfaa.H
