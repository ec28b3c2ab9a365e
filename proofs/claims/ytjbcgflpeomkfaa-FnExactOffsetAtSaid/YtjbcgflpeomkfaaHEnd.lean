/-
EndOf, the program's and the reference's: both answer endOf. Conditions: each contract's own premises.
-/
import Derived.Test.YtjbcgflpeomkfaaHAll2
import Derived.Test.YtjbcgflpeomkfaaHLog1
import Derived.Test.YtjbcgflpeomkfaaHLog2
namespace Go.Proofs.Ytjbcgflpeomkfaa.H
open Go.RowKit
set_option linter.unusedVariables false
set_option linter.unusedSimpArgs false
set_option maxRecDepth 100000
theorem iB_all : ∀ (bs : List Batch) (l e : Int) (q : Int × Int), iB bs l e = some q → ∀ b ∈ bs, batchOk b = true
  | [], l, e, q, h => by simp
  | b :: r, l, e, q, h => by
    simp only [iB] at h
    split at h
    · rename_i hc
      simp only [Bool.and_eq_true, decide_eq_true_eq] at hc
      intro b' hb'
      rcases List.mem_cons.1 hb' with rfl | hb'
      · exact hc.1.1
      · exact iB_all r _ _ q h b' hb'
    · cases h
theorem iS_all (next : Int) : ∀ (ss : List Segment) (fst : Bool) (l e : Int) (m : Nat) (q : Int), m ≤ 400 → iS next fst ss l e m = some q → m + (ss.flatMap (·.Batches)).length ≤ 400 ∧ ∀ b ∈ ss.flatMap (·.Batches), batchOk b = true
  | [], fst, l, e, m, q, hm, h => by simp [hm]
  | s :: r, fst, l, e, m, q, hm, h => by
    simp only [iS] at h
    split at h
    · cases h
    · rename_i hc
      have hm2 : m + s.Batches.length ≤ 400 := by simp at hc; omega
      simp only [List.flatMap_cons, List.length_append, List.mem_append]
      split at h
      · rename_i hbs
        split at h
        · cases h
        · obtain ⟨h1, h2⟩ := iS_all next r _ _ _ _ q hm2 h
          rw [hbs] at h1 ⊢
          simp only [List.length_nil] at *
          exact ⟨by omega, fun b hb => by rcases hb with hb | hb; (cases hb); exact h2 b hb⟩
      · rename_i b0 bs hbs
        split at h
        · cases h
        · obtain ⟨p, hp, h⟩ := Option.bind_eq_some_iff.1 h
          obtain ⟨h1, h2⟩ := iS_all next r _ _ _ _ q hm2 h
          have h3 := iB_all _ _ _ _ hp
          rw [hbs] at h1 ⊢
          exact ⟨by omega, fun b hb => by
            rcases hb with hb | hb
            · exact h3 b (by rw [hbs]; exact hb)
            · exact h2 b hb⟩
theorem logOk_all {x : Log} (h : logOk x = true) : (allB x).length ≤ 400 ∧ ∀ b ∈ allB x, batchOk b = true := by
  unfold logOk at h
  simp only [Bool.and_eq_true] at h
  obtain ⟨_, h⟩ := h
  split at h
  · rename_i q hq
    have := iS_all _ _ _ _ _ _ _ (by omega) hq
    unfold allB
    exact ⟨by omega, this.2⟩
  · cases h
def endG (ep nx : Int) : List Batch → Option Int → Option Int × Int
  | [], f => (f, nx)
  | b :: r, f => if ep < b.Epoch then (f, b.Base) else endG ep nx r (some b.Epoch)
def endOf (x : Log) (ep : Int) : Int × Int := match endG ep x.Next (allB x) none with
  | (some f, e) => (f, e)
  | (none, _) => (0, x.Start)
set_option maxHeartbeats 4000000 in
theorem endOf_c (w : World) (x : Log) (ep : Int) {A3 : Option Addr} {c3 : Nat} (l3 : x.Segments.length ≤ c3) (g3 : Row kSegment w A3 x.Segments) (hn : x.Segments.length ≤ 1048576) (hb0 : (allB x).length ≤ 400) :
    Calls Try.prog 42 #[.agg #[.int .i64 x.Start, .int .i64 x.Next, .int .i64 x.Roll, .slice A3 x.Segments.length c3], .int .i64 ep] w fun e w' => e = .returned (.tuple #[.int .i64 (endOf x ep).1, .int .i64 (endOf x ep).2]) ∧ Below w.heap.size w w' := by
  have HR : Hid (∀ T, endG ep x.Next (allB x) none = T → endOf x ep = match T with | (some f, e) => (f, e) | (none, _) => (0, x.Start)) := Lib.hid (fun T h => by rw [← h]; rfl)
  generalize endOf x ep = R at HR
  have hu3 := Try.underlying29
  have hu4 := Try.underlying62
  go_enter Try.func42, Try.ntmps42
  generalize hL : allB x = L at HR
  have HL := Lib.hid hL
  clear hL
  have hll : L.length ≤ 400 := by rw [← HL.out]; exact hb0
  clear hb0
  go_upto_region 4 with (go_at_call 45; refine (batches_c _ x l3 (Row_below g3 (below_al _ _)) hn (by rw [HL.out]; omega)).mono ?_; rw [HL.out]; rintro e w1 ⟨A, c, rfl, hc, hr, hb1⟩; have X := (Box.new w _ _).later hb1; have z0 := X 0 _ rfl; have z1 := X 1 _ rfl; have HX := Lib.hid X; clear X)
  have hb := below_tr (below_al _ _) hb1
  clear hb1 HX z1
  generalize hT : endG ep x.Next L none = T
  have HT := Lib.hid hT
  clear hT
  have HR2 := Lib.hid (HR.out T HT.out)
  clear HR
  go_loopg [6, 7, 8, 16] L.length (fun g v6 v7 v8 v16 wr => ∃ (k : Nat) (f : Option Int), k + g = L.length ∧ v16 = .int .i64 k ∧ v6 = .int .i64 (f.getD 0) ∧ v7 = .bool f.isSome ∧ v8 = .int .i64 x.Next ∧ wr.cell? ⟨w.heap.size, 0, none⟩ = some (.int .i64 x.Start) ∧ Below w.heap.size w wr ∧ Row kBatch wr A L ∧ Hid (endG ep x.Next (L.drop k) f = T))
  case atStart => exact ⟨0, none, by omega, rfl, rfl, rfl, rfl, z0, hb, hr, HT⟩
  case round =>
    clear z0 hb hr HT
    obtain ⟨k, f, hk, rfl, rfl, rfl, rfl, z0, hb, hr, HD⟩ := hrel
    have hgz : w.heap.size < wr.heap.size := World.block_lt_of_cell? wr _ z0
    by_cases hlt : k < L.length
    case neg =>
      have HE : Hid ((f, x.Next) = T) := Lib.hid (by have h := HD.out; rw [List.drop_eq_nil_of_le (by omega)] at h; simpa [endG] using h)
      cases f with
      | none =>
        go_upto_region 11 with fail
        go_quiet (fail)
        go_wp2
        go_ret2
        exact ⟨by rw [HR2.out, ← HE.out]; rfl, below_dn hb _⟩
      | some f =>
        go_wp2
        go_ret2
        exact ⟨by rw [HR2.out, ← HE.out]; rfl, hb⟩
    obtain ⟨bd, b, A6, c6, rfl, hbx, r0, r1, r2, r3, r4, r5, r6, l6, g6⟩ := Batch.at hr k hlt
    have HX := Lib.hid (drop_cons hbx)
    clear hbx
    have HD2 : Hid ((if ep < b.Epoch then (f, b.Base) else endG ep x.Next (L.drop (k + 1)) (some b.Epoch)) = T) := Lib.hid (by rw [← HD.out, HX.out]; simp only [endG])
    clear HD HX
    have z0' := later (below_al wr (.cells #[.int .i64 b.Base, .int .i64 b.Epoch, .int .i64 b.Producer, .int .i64 b.Turn, .int .i64 b.Seq, .int .i64 b.Flags, .slice A6 b.Records.length c6] 29)) z0
    by_cases hc : ep < b.Epoch
    · have HE : Hid ((f, b.Base) = T) := Lib.hid (by rw [← HD2.out, if_pos hc])
      cases f with
      | none =>
        go_upto_region 11 with fail
        go_quiet (fail)
        go_wp2
        go_ret2
        exact ⟨by rw [HR2.out, ← HE.out]; rfl, below_dn (below_tr hb (below_al _ _)) _⟩
      | some f =>
        go_wp2
        go_ret2
        exact ⟨by rw [HR2.out, ← HE.out]; rfl, below_tr hb (below_al _ _)⟩
    · have HE : Hid (endG ep x.Next (L.drop (k + 1)) (some b.Epoch) = T) := Lib.hid (by rw [← HD2.out, if_neg hc])
      go_wp2
      go_roundg (gk - 1)
      case rel => exact ⟨k + 1, some b.Epoch, by omega, by go_num, rfl, rfl, rfl, z0', below_tr hb (below_al _ _), Row_below hr (below_al _ _), HE⟩
      case measure => omega
end Go.Proofs.Ytjbcgflpeomkfaa.H
