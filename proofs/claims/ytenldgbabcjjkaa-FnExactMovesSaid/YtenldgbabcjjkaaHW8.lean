/-
Moves, walked: the program's and the reference's. Conditions: each contract's own premises.
-/
import Derived.Test.YtenldgbabcjjkaaHW7
namespace Go.Proofs.Ytenldgbabcjjkaa.H
open Go.RowKit Go.Sort Go.Maps
set_option linter.unusedVariables false
set_option linter.unusedSimpArgs false
set_option maxRecDepth 100000
def missN (h l : List Slot) : Nat := h.countP (fun q => !inF l q)
def mvN (z : List (Want × List Slot)) : Nat := sumF (fun p => missN p.1.Has p.2) z
def movesF (ws : List Want) (ls : List (List Slot)) : Int := if wantsF ws = true then (if ls.length = ws.length then (mvN (ws.zip ls) : Int) else -1) else -1
theorem miss_step {h : List Slot} {j : Nat} {q : Slot} (hq : h[j]? = some q) (l : List Slot) : missN (h.take (j + 1)) l = missN (h.take j) l + (if inF l q then 0 else 1) := by
  unfold missN
  rw [List.take_add_one, hq, Option.toList_some, List.countP_append, List.countP_singleton]
  cases inF l q <;> rfl
theorem miss_le (h l : List Slot) : missN h l ≤ h.length := List.countP_le_length
theorem mv_step {ws : List Want} {ls : List (List Slot)} {k : Nat} {s : Want} {l : List Slot} (h1 : ws[k]? = some s) (h2 : ls[k]? = some l) : mvN ((ws.zip ls).take (k + 1)) = mvN ((ws.zip ls).take k) + missN s.Has l := by
  unfold mvN
  rw [sumF_take (x := (s, l)) (by rw [List.getElem?_zip_eq_some]; exact ⟨h1, h2⟩)]
set_option maxHeartbeats 8000000 in
theorem specMoves_c (w : World) (l : List Want) (ls : List (List Slot)) {A : Option Addr} {c : Nat} (hl : l.length ≤ c) (hg : Row kWant w A l) {B : Option Addr} {d : Nat} (hl2 : ls.length ≤ d) (hg2 : Row (Ki.slice 79 kSlot) w B ls)
    (hs : l.length ≤ 1048576 ∧ ∀ y ∈ l, y.sm) (hs2 : ls.length ≤ 1048576 ∧ ∀ y ∈ ls, (y.length ≤ 1048576 ∧ ∀ yy ∈ y, yy.sm)) :
    Calls Try.prog 15 #[.slice A l.length c, .slice B ls.length d] w fun e w' => e = .returned (.int .i64 (movesF l ls)) ∧ Below w.heap.size w w' := by
  unfold movesF
  have HS := Lib.hid hs
  have HS2 := Lib.hid hs2
  have hln := hs.1
  have hln2 := hs2.1
  clear hs hs2
  have hu2 := Try.underlying25
  have hu3 := Try.underlying73
  have hu4 := Try.underlying71
  have hu5 := Try.underlying79
  have hu6 := Try.underlying32
  generalize hok : wantsF l = ok
  have HOK := Lib.hid hok
  clear hok
  go_enter Try.func15, Try.ntmps15
  cases ok with
  | false =>
    go_wp2_with (go_at_call 10; refine (specWantsOk_c _ l hl hg HS.out).mono ?_; rintro e w1 ⟨rfl, hb1⟩; rw [HOK.out])
    go_ret
    exact ⟨rfl, hb1⟩
  | true =>
  by_cases hll : ls.length = l.length
  case neg =>
    have hd : ¬ ((ls.length : Int) = (l.length : Int)) := by omega
    go_wp2_with (go_at_call 10; refine (specWantsOk_c _ l hl hg HS.out).mono ?_; rintro e w1 ⟨rfl, hb1⟩; rw [HOK.out])
    all_goals first
      | (exfalso; omega)
      | (go_ret; exact ⟨by simp [hll], hb1⟩)
  have HLL := Lib.hid hll
  have hnl : (((ls.length : Int) != (l.length : Int))) = false := by rw [hll]; simp
  clear hll
  go_upto_region 5 with (go_at_call 10; refine (specWantsOk_c _ l hl hg HS.out).mono ?_; rintro e w1 ⟨rfl, hb1⟩; rw [HOK.out])
  clear hnl
  generalize hR : mvN (l.zip ls) = R
  have HR := Lib.hid hR
  clear hR
  go_loopg [5, 6] l.length (fun g v5 v6 wr => ∃ (k n : Nat), k + g = l.length ∧ v6 = .int .i64 k ∧ v5 = .int .i64 n ∧ n ≤ k * 1048576 ∧ Below w.heap.size w wr ∧ Hid (n = mvN ((l.zip ls).take k)))
  case atStart => exact ⟨0, 0, by omega, rfl, rfl, by omega, hb1, Lib.hid rfl⟩
  case round =>
    clear hb1
    obtain ⟨k, n, hk, rfl, rfl, hn, hb, HN⟩ := hrel
    by_cases hlt : k < l.length
    case neg =>
      have HE : Hid (n = R) := Lib.hid (by rw [HN.out, ← HR.out, List.take_of_length_le (by rw [List.length_zip]; omega)])
      go_wp2
      go_ret
      exact ⟨by rw [HE.out]; simp [HLL.out, HR.out], hb⟩
    obtain ⟨ad, s, A1, c1, A2, c2, rfl, hx, _, _, p2, _, _, l2, g2⟩ := Want.at hg k hlt
    have hlt3 : k < ls.length := by have := HLL.out; omega
    obtain ⟨bd, q, B1, d1, rfl, hx2, r0, m1, h1⟩ := rowSl hg2 k hlt3
    have HSM := Lib.hid (HS.out.2 s (List.mem_of_getElem? hx)).2.2
    have hh := HSM.out.1
    have HQ := Lib.hid (HS2.out.2 q (List.mem_of_getElem? hx2)).1
    have HST := Lib.hid (mv_step hx hx2)
    clear hx hx2
    go_upto_region 8 with fail
    go_loopg [5, 7] s.Has.length (fun g v5 v7 wi => ∃ (j m : Nat), j + g = s.Has.length ∧ v7 = .int .i64 j ∧ v5 = .int .i64 m ∧ m ≤ k * 1048576 + j ∧ Below w.heap.size w wi ∧ Hid (m = mvN ((l.zip ls).take k) + missN (s.Has.take j) q))
    case atStart => exact ⟨0, n, by omega, rfl, rfl, Nat.le_trans hn (Nat.le_add_right _ _), hb, Lib.hid (by rw [List.take_zero, show missN [] q = 0 from rfl, Nat.add_zero]; exact HN.out)⟩
    case round =>
      clear HN hb hn
      obtain ⟨j, m, hj, rfl, rfl, hm, hb, HN⟩ := hrel
      have p2' := later hb p2
      have r0' := later hb r0
      by_cases hlt2 : j < s.Has.length
      case neg =>
        have HE : Hid (m = mvN ((l.zip ls).take (k + 1))) := Lib.hid (by rw [HN.out, HST.out, List.take_of_length_le (show s.Has.length ≤ j by omega)])
        go_wp2
        go_roundg (l.length - k - 1)
        case rel => exact ⟨k + 1, m, by omega, by go_num, rfl, by omega, hb, HE⟩
        case measure => omega
      obtain ⟨ad2, y, rfl, hy, t0, t1⟩ := Slot.at (Row_below g2 hb) j hlt2
      have HMS := Lib.hid (miss_step hy q)
      clear hy
      generalize hin : inF q y = bi at HMS
      have HI := Lib.hid hin
      clear hin
      have HB := Lib.hid hb
      go_upto_region 10 with fail
      have f0 := cg t0
      have f1 := cg t1
      have f2 := cg p2'
      have f3 := cg r0'
      refine wp_region_quiet_below (by kernel_rfl) (by kernel_rfl) ?_
      repeat (go_big_quiet_step ((first | (go_at_call 40; exact rg (l9In_c _ q y m1 (Row_below h1 (below_tr HB.out (below_regrown _ _ _))) HQ.out) (congrArg Value.bool HI.out)))))
      refine wpQuiet_nil ?_
      intro _ hw'
      obtain ⟨pp, hw''⟩ := hw'
      subst hw''
      have hbq := below_tr HB.out (below_regrown wr pp.d pp.os)
      cases bi with
      | true =>
        have HE : Hid (m = mvN ((l.zip ls).take k) + missN (s.Has.take (j + 1)) q) := Lib.hid (by rw [HN.out, HMS.out]; rfl)
        go_wp2
        go_roundg (s.Has.length - j - 1)
        case rel => exact ⟨j + 1, m, by omega, by go_num, rfl, by omega, hbq, HE⟩
        case measure => omega
      | false =>
        have HE : Hid (m + 1 = mvN ((l.zip ls).take k) + missN (s.Has.take (j + 1)) q) := Lib.hid (by rw [HN.out, HMS.out]; simp; omega)
        go_wp2
        go_roundg (s.Has.length - j - 1)
        case rel => exact ⟨j + 1, m + 1, by omega, by go_num, by go_num, by omega, hbq, HE⟩
        case measure => omega
end Go.Proofs.Ytenldgbabcjjkaa.H
