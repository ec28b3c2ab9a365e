/-
The reference's l9Slots and l9In. Conditions: each contract's own premises.
-/
import Derived.Test.YtenldgbabcjjkaaHW2
namespace Go.Proofs.Ytenldgbabcjjkaa.H
open Go.RowKit Go.Sort
set_option linter.unusedVariables false
set_option linter.unusedSimpArgs false
set_option maxRecDepth 100000
set_option maxHeartbeats 4000000 in
theorem l9Slots_c (w : World) (l : List Slot) {A : Option Addr} {c : Nat} (hl : l.length ≤ c) (hg : Row kSlot w A l) (hs : l.length ≤ 1048576 ∧ ∀ s ∈ l, s.sm) :
    Calls Try.prog 39 #[.slice A l.length c] w fun e w' => e = .returned (.bool (slotsF l)) ∧ Below w.heap.size w w' := by
  unfold slotsF
  have HS := Lib.hid hs.2
  have hln := hs.1
  clear hs
  generalize hR : ordF slotOkF slotLt none l = R
  have HR : Hid (ordF slotOkF slotLt (prevO l 0) (l.drop 0) = R) := Lib.hid (by rw [← hR]; rfl)
  clear hR
  have hu2 := Try.underlying71
  have hu := Try.underlying79
  go_enter Try.func39, Try.ntmps39
  by_cases hn : (400 : Int) < (l.length : Int)
  · go_wp2
    go_ret
    exact ⟨ret_bool (by simp; omega), Below.refl _ _⟩
  have HN20 := Lib.hid hn
  go_upto_region 4 with fail
  go_loopg [3] l.length (fun g v3 wr => ∃ k : Nat, k + g = l.length ∧ v3 = .int .i64 k ∧ Below w.heap.size w wr ∧ Hid (ordF slotOkF slotLt (prevO l k) (l.drop k) = R))
  case atStart => exact ⟨0, by omega, rfl, Below.refl _ _, HR⟩
  case round =>
    clear HR
    obtain ⟨k, hk, rfl, hb, HD⟩ := hrel
    by_cases hlt : k < l.length
    case neg =>
      have HE : Hid (true = R) := Lib.hid (by rw [← HD.out, ordF_end (by omega)])
      go_wp2
      go_ret
      exact ⟨ret_bool (by rw [← HE.out]; simp; omega), hb⟩
    obtain ⟨ad, s, rfl, hx, p0, p1⟩ := Slot.at (Row_below hg hb) k hlt
    have hss : s.Topic.size ≤ 1048576 := HS.out s (List.mem_of_getElem? hx)
    have HX := Lib.hid (ordF_step (ok := slotOkF) (lt := slotLt) hx)
    clear hx
    generalize hnm : nameOk s.Topic = bn
    have HN := Lib.hid hnm
    clear hnm
    generalize hni : inB s.Part 0 49 = bi
    have HI := Lib.hid hni
    clear hni
    have HSO : Hid (slotOkF s = (bn && bi)) := Lib.hid (by unfold slotOkF; rw [HN.out, HI.out])
    have hprev : 0 < k → ∃ q, prevO l k = some q ∧ wr.cell? (ad.add ((k - 1) * 2)) = some (.string q.Topic) ∧ wr.cell? ⟨(ad.add ((k - 1) * 2)).block, (ad.add ((k - 1) * 2)).off + 1, none⟩ = some (.int .i64 q.Part) := fun hk0 => by
      obtain ⟨_, q, he, hq, r0, r1⟩ := Slot.at (Row_below hg hb) (k - 1) (by omega)
      cases he
      exact ⟨q, by have h := prevO_succ hq; rwa [show k - 1 + 1 = k by omega] at h, r0, r1⟩
    go_upto_region 6 with fail
    have f0 := cg p0
    have f1 := cg p1
    cases bn with
    | false =>
      have HE : Hid (false = R) := Lib.hid (by rw [← HD.out, HX.out, HSO.out]; simp)
      clear hprev
      refine wp_region_quiet_below (by kernel_rfl) (by kernel_rfl) ?_
      repeat (go_big_quiet_step ((first | (go_at_call 37; exact rg_same (specNameOk_c _ _ hss) (congrArg Value.bool HN.out)))))
      refine wpQuiet_nil ?_
      intro _ hw'
      obtain ⟨pp, hw''⟩ := hw'
      subst hw''
      have hbq := below_tr hb (below_regrown wr pp.d pp.os)
      go_wp2
      go_ret
      exact ⟨by rw [← HE.out]; simp, hbq⟩
    | true =>
      cases bi with
      | false =>
        have HE : Hid (false = R) := Lib.hid (by rw [← HD.out, HX.out, HSO.out]; simp)
        clear hprev
        refine wp_region_quiet_below (by kernel_rfl) (by kernel_rfl) ?_
        repeat (go_big_quiet_step ((first | (go_at_call 37; exact rg_same (specNameOk_c _ _ hss) (congrArg Value.bool HN.out)) | (go_at_call 50; exact rg_same (l1In_c _ _ _ _) (congrArg Value.bool HI.out)))))
        refine wpQuiet_nil ?_
        intro _ hw'
        obtain ⟨pp, hw''⟩ := hw'
        subst hw''
        have hbq := below_tr hb (below_regrown wr pp.d pp.os)
        go_wp2
        go_ret
        exact ⟨by rw [← HE.out]; simp, hbq⟩
      | true =>
        by_cases hk0 : 0 < k
        case neg =>
          have hki : decide ((0 : Int) < (k : Int)) = false := by simp; omega
          have hkn : decide (0 < k) = false := by simp; omega
          have HE : Hid (ordF slotOkF slotLt (prevO l (k + 1)) (l.drop (k + 1)) = R) := Lib.hid (by rw [← HD.out, HX.out, HSO.out, show prevO l k = none by simp [prevO]; omega]; simp)
          clear hk0 hprev
          refine wp_region_quiet_below (by kernel_rfl) (by kernel_rfl) ?_
          repeat (go_big_quiet_step ((first | (go_at_call 37; exact rg_same (specNameOk_c _ _ hss) (congrArg Value.bool HN.out)) | (go_at_call 50; exact rg_same (l1In_c _ _ _ _) (congrArg Value.bool HI.out)))))
          refine wpQuiet_nil ?_
          intro _ hw'
          obtain ⟨pp, hw''⟩ := hw'
          subst hw''
          have hbq := below_tr hb (below_regrown wr pp.d pp.os)
          go_wp2
          go_roundg (gk - 1)
          case rel => exact ⟨k + 1, by omega, by go_num, hbq, HE⟩
          case measure => omega
        case pos =>
          obtain ⟨q, hP, r0, r1⟩ := hprev hk0
          have HP := Lib.hid hP
          clear hP hprev
          have hki : decide ((0 : Int) < (k : Int)) = true := by simp; omega
          have hkn : decide (0 < k) = true := by simp; omega
          have hk2 : IntKind.i64.wrap ((k : Int) - 1) = ((k - 1 : Nat) : Int) := by rw [IntWalk.i64_in _ (by omega)]; omega
          generalize hls : slotLt q s = bl
          have HL := Lib.hid hls
          clear hls
          have g0 := cg r0
          have g1 := cg r1
          cases bl with
          | true =>
            have HE : Hid (ordF slotOkF slotLt (prevO l (k + 1)) (l.drop (k + 1)) = R) := Lib.hid (by rw [← HD.out, HX.out, HSO.out, HP.out]; simp [HL.out])
            refine wp_region_quiet_below (by kernel_rfl) (by kernel_rfl) ?_
            repeat (go_big_quiet_step ((first | (go_at_call 37; exact rg_same (specNameOk_c _ _ hss) (congrArg Value.bool HN.out)) | (go_at_call 50; exact rg_same (l1In_c _ _ _ _) (congrArg Value.bool HI.out)) | (go_at_call 81; exact rg (l9Ahead_c _ q s) (congrArg Value.bool HL.out)))))
            refine wpQuiet_nil ?_
            intro _ hw'
            obtain ⟨pp, hw''⟩ := hw'
            subst hw''
            have hbq := below_tr hb (below_regrown wr pp.d pp.os)
            clear hk2
            go_wp2
            go_roundg (gk - 1)
            case rel => exact ⟨k + 1, by omega, by go_num, hbq, HE⟩
            case measure => omega
          | false =>
            have HE : Hid (false = R) := Lib.hid (by rw [← HD.out, HX.out, HSO.out, HP.out]; simp [HL.out])
            refine wp_region_quiet_below (by kernel_rfl) (by kernel_rfl) ?_
            repeat (go_big_quiet_step ((first | (go_at_call 37; exact rg_same (specNameOk_c _ _ hss) (congrArg Value.bool HN.out)) | (go_at_call 50; exact rg_same (l1In_c _ _ _ _) (congrArg Value.bool HI.out)) | (go_at_call 81; exact rg (l9Ahead_c _ q s) (congrArg Value.bool HL.out)))))
            refine wpQuiet_nil ?_
            intro _ hw'
            obtain ⟨pp, hw''⟩ := hw'
            subst hw''
            have hbq := below_tr hb (below_regrown wr pp.d pp.os)
            clear hk2
            go_wp2
            go_ret
            exact ⟨by rw [← HE.out]; simp, hbq⟩
/-- One of some. -/
def slEq (a b : Slot) : Bool := (a.Topic.toList == b.Topic.toList) && decide (a.Part = b.Part)
def inF (l : List Slot) (s : Slot) : Bool := l.any (fun x => slEq x s)
theorem inF_step {l : List Slot} {k : Nat} {x : Slot} (h : l[k]? = some x) (s : Slot) : inF (l.drop k) s = (slEq x s || inF (l.drop (k + 1)) s) := by
  obtain ⟨hk, rfl⟩ := List.getElem?_eq_some_iff.1 h
  rw [List.drop_eq_getElem_cons hk]
  rfl
set_option maxHeartbeats 4000000 in
theorem l9In_c (w : World) (l : List Slot) (s : Slot) {A : Option Addr} {c : Nat} (hl : l.length ≤ c) (hg : Row kSlot w A l) (hs : l.length ≤ 1048576) :
    Calls Try.prog 40 #[.slice A l.length c, .agg #[.string s.Topic, .int .i64 s.Part]] w fun e w' => e = .returned (.bool (inF l s)) ∧ Below w.heap.size w w' := by
  generalize hR : inF l s = R
  have HR : Hid (inF (l.drop 0) s = R) := Lib.hid (by rw [← hR]; rfl)
  clear hR
  have hu2 := Try.underlying71
  have hu := Try.underlying79
  go_enter Try.func40, Try.ntmps40
  go_upto_region 2 with fail
  have hb0 := below_al w (.cells #[.string s.Topic, .int .i64 s.Part] 79)
  have X := Box.new w #[.string s.Topic, .int .i64 s.Part] 79
  generalize w.alloc (.cells #[.string s.Topic, .int .i64 s.Part] 79) = W0 at hb0 X ⊢
  go_loopg [5] l.length (fun g v5 wr => ∃ k : Nat, k + g = l.length ∧ v5 = .int .i64 k ∧ Below W0.heap.size W0 wr ∧ Hid (inF (l.drop k) s = R))
  case atStart => exact ⟨0, by omega, rfl, Below.refl _ _, HR⟩
  case round =>
    clear HR
    obtain ⟨k, hk, rfl, hb, HD⟩ := hrel
    have X2 := X.later hb
    have a0 : wr.cell? ⟨w.heap.size, 0, none⟩ = some (.string s.Topic) := X2 0 _ rfl
    have a1 : wr.cell? ⟨w.heap.size, 1, none⟩ = some (.int .i64 s.Part) := X2 1 _ rfl
    have hbw := below_tr hb0 hb
    by_cases hlt : k < l.length
    case neg =>
      have HE : Hid (false = R) := Lib.hid (by rw [← HD.out, List.drop_eq_nil_of_le (by omega)]; rfl)
      go_wp2
      go_ret
      exact ⟨ret_bool (by rw [← HE.out]), hbw⟩
    obtain ⟨ad, x, rfl, hx, p0, p1⟩ := Slot.at (Row_below hg hbw) k hlt
    have HX := Lib.hid (inF_step hx s)
    clear hx
    have Hb := fun n => below_dn hb n
    have Hbw := fun n => below_dn hbw n
    go_upto_region 4 with fail
    generalize ht : (x.Topic.toList == s.Topic.toList) = bt
    have HT := Lib.hid ht
    by_cases hp : x.Part = s.Part
    · have hp2 : (x.Part == s.Part) = true := by simpa using hp
      have hp3 : decide (x.Part = s.Part) = true := by simpa using hp
      have HP := Lib.hid hp
      clear hp
      cases bt with
      | true =>
        have HE : Hid (true = R) := Lib.hid (by rw [← HD.out, HX.out]; simp [slEq, HT.out, HP.out])
        go_quiet (fail)
        go_wp2
        go_ret
        exact ⟨ret_bool (by rw [← HE.out]), Hbw _⟩
      | false =>
        have HE : Hid (inF (l.drop (k + 1)) s = R) := Lib.hid (by rw [← HD.out, HX.out]; simp [slEq, HT.out])
        go_quiet (fail)
        go_wp2
        go_roundg (gk - 1)
        case rel => exact ⟨k + 1, by omega, by go_num, Hb _, HE⟩
        case measure => omega
    · have hp2 : (x.Part == s.Part) = false := by simpa using hp
      have hp3 : decide (x.Part = s.Part) = false := by simpa using hp
      have HP := Lib.hid hp
      clear hp
      have HE : Hid (inF (l.drop (k + 1)) s = R) := Lib.hid (by rw [← HD.out, HX.out]; simp [slEq, HP.out])
      cases bt with
      | true =>
        go_quiet (fail)
        go_wp2
        go_roundg (gk - 1)
        case rel => exact ⟨k + 1, by omega, by go_num, Hb _, HE⟩
        case measure => omega
      | false =>
        go_quiet (fail)
        go_wp2
        go_roundg (gk - 1)
        case rel => exact ⟨k + 1, by omega, by go_num, Hb _, HE⟩
        case measure => omega
end Go.Proofs.Ytenldgbabcjjkaa.H
