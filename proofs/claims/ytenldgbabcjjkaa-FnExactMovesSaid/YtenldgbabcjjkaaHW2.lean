/-
Slots in order: the program's slotsOk, the reference's l9Slots, l9In. Conditions: each contract's own premises.
-/
import Derived.Test.YtenldgbabcjjkaaHW1
import Derived.Test.YtenldgbabcjjkaaHSmall
import Derived.Test.YtenldgbabcjjkaaHRec
import Derived.Lib.Strings
namespace Go.Proofs.Ytenldgbabcjjkaa.H
open Go.RowKit Go.Sort
set_option linter.unusedVariables false
set_option linter.unusedSimpArgs false
set_option maxRecDepth 100000
def slotOkF (s : Slot) : Bool := nameOk s.Topic && inB s.Part 0 49
def slotLt (a b : Slot) : Bool := ltS a.Topic b.Topic || ((a.Topic.toList == b.Topic.toList) && decide (a.Part < b.Part))
def slotsF (l : List Slot) : Bool := decide ((l.length : Int) ≤ 400) && ordF slotOkF slotLt none l
theorem cmp_less : ∀ (a b : List UInt8), (Op.bytesLess a b = true → Lib.compareBytes a b = -1) ∧ (Op.bytesLess b a = true → Lib.compareBytes a b = 1) ∧ ((a == b) = true → Lib.compareBytes a b = 0)
  | [], [] => ⟨fun h => (by cases h), fun h => (by cases h), fun _ => rfl⟩
  | [], b :: y => ⟨fun _ => rfl, fun h => (by cases h), fun h => (by simp at h)⟩
  | a :: x, [] => ⟨fun h => (by cases h), fun _ => rfl, fun h => (by simp at h)⟩
  | a :: x, b :: y => by
    obtain ⟨i1, i2, i3⟩ := cmp_less x y
    have hc : Lib.compareBytes (a :: x) (b :: y) = if a < b then -1 else if b < a then 1 else Lib.compareBytes x y := rfl
    rw [less_cons, less_cons, hc]
    rcases Nat.lt_trichotomy a.toNat b.toNat with h | h | h
    · have h1 : a < b := UInt8.lt_iff_toNat_lt.2 h
      have h2 : ¬ b < a := fun hh => by have := UInt8.lt_iff_toNat_lt.1 hh; omega
      have h3 : a ≠ b := fun e => by subst e; omega
      simp [h1, h2, h3, h3.symm]
    · have h3 : a = b := UInt8.toNat_inj.1 h
      subst h3
      have h2 : ¬ a < a := fun hh => by have := UInt8.lt_iff_toNat_lt.1 hh; omega
      refine ⟨fun h => ?_, fun h => ?_, fun h => ?_⟩ <;> simp [h2] at h ⊢
      · exact i1 h
      · exact i2 h
      · exact i3 (by simpa using h)
    · have h1 : b < a := UInt8.lt_iff_toNat_lt.2 h
      have h2 : ¬ a < b := fun hh => by have := UInt8.lt_iff_toNat_lt.1 hh; omega
      have h3 : a ≠ b := fun e => by subst e; omega
      simp [h1, h2, h3, h3.symm]
set_option maxHeartbeats 1000000 in
theorem cmpStr_c (a b : ByteArray) (w : World) : Calls Try.prog 114 #[.string a, .string b] w fun e w' => e = .returned (.int .i64 (Lib.compareBytes a.toList b.toList)) ∧ w = w' := by
  rw [ByteArray.toList_eq, ByteArray.toList_eq]
  go_enter Try.func114, Try.ntmps114
  go_wp2
  rw [run_callFunc_extern Try.func121 (by kernel_rfl) (by kernel_rfl) (by kernel_rfl) (e := Extern.BytealgCompare.compare) (by kernel_rfl), Lib.run_compareString]
  simp only [Result.andThen]
  rw [Oper.upon_value]
  go_wp2
  go_ret
  exact ⟨rfl, rfl⟩
theorem cmpS_c (a b : ByteArray) (w : World) : Calls Try.prog 106 #[.string a, .string b] w fun e w' => e = .returned (.int .i64 (Lib.compareBytes a.toList b.toList)) ∧ w = w' := by
  go_enter Try.func106, Try.ntmps106
  go_wp2_with (go_at_call 114; refine (cmpStr_c _ _ _).mono ?_; rintro e w' ⟨rfl, rfl⟩)
  go_ret
  exact ⟨rfl, rfl⟩
theorem slotOk_c (w : World) (s : Slot) (hs : s.Topic.size ≤ 1048576) : Calls Try.prog 85 #[.agg #[.string s.Topic, .int .i64 s.Part]] w fun e w' => e = .returned (.bool (slotOkF s)) ∧ Below w.heap.size w w' := by
  unfold slotOkF
  generalize hn : nameOk s.Topic = bn
  have HN := Lib.hid hn
  clear hn
  go_enter Try.func85, Try.ntmps85
  cases bn with
  | false =>
    go_wp2_with (go_at_call 42; refine (implNameOk_c _ _ hs).mono ?_; rintro e w' ⟨rfl, rfl⟩; rw [HN.out])
    go_ret
    exact ⟨rfl, below_al _ _⟩
  | true =>
    go_wp2_with (first | (go_at_call 42; refine (implNameOk_c _ _ hs).mono ?_; rintro e w' ⟨rfl, rfl⟩; rw [HN.out]) | (go_at_call 52; refine (within_c _ _ _ _).mono ?_; rintro e w' ⟨rfl, rfl⟩))
    go_ret
    exact ⟨by simp, below_al _ _⟩
theorem below_al2 (w : World) (o p : Obj) : Below w.heap.size w ((w.alloc o).alloc p) := below_tr (below_al _ _) (below_al _ _)
theorem slotLess_c (w : World) (a b : Slot) : Calls Try.prog 86 #[.agg #[.string a.Topic, .int .i64 a.Part], .agg #[.string b.Topic, .int .i64 b.Part]] w fun e w' => e = .returned (.bool (slotLt a b)) ∧ Below w.heap.size w w' := by
  have HC := Lib.hid (cmp_less a.Topic.toList b.Topic.toList)
  generalize hR : slotLt a b = R
  have HR := Lib.hid hR
  clear hR
  go_enter Try.func86, Try.ntmps86
  rcases triB a.Topic.toList b.Topic.toList with ⟨h1, h2, h3, h4⟩ | ⟨h1, h2, h3, h4⟩ | ⟨h1, h2, h3, h4⟩
  · have e := Lib.hid (HC.out.1 h1)
    have HE : Hid (true = R) := Lib.hid (by rw [← HR.out]; simp [slotLt, ltS, h1])
    go_wp2_with (go_at_call 106; refine (cmpS_c _ _ _).mono ?_; rintro e' w' ⟨rfl, rfl⟩; rw [e.out])
    go_ret
    exact ⟨ret_bool (by rw [← HE.out]; first | done | (simp; omega)), below_al2 _ _ _⟩
  · have e := Lib.hid (HC.out.2.2 h3)
    have H3 := Lib.hid h3
    have H1 := Lib.hid h1
    clear h1 h2 h3 h4
    by_cases hp : a.Part < b.Part
    · have HE : Hid (true = R) := Lib.hid (by rw [← HR.out]; simp [slotLt, H3.out, hp])
      go_wp2_with (go_at_call 106; refine (cmpS_c _ _ _).mono ?_; rintro e' w' ⟨rfl, rfl⟩; rw [e.out])
      go_ret
      exact ⟨ret_bool (by rw [← HE.out]; first | done | (simp; omega)), below_al2 _ _ _⟩
    · have HE : Hid (false = R) := Lib.hid (by rw [← HR.out]; simp [slotLt, ltS, H1.out, hp])
      go_wp2_with (go_at_call 106; refine (cmpS_c _ _ _).mono ?_; rintro e' w' ⟨rfl, rfl⟩; rw [e.out])
      go_ret
      exact ⟨ret_bool (by rw [← HE.out]; first | done | (simp; omega)), below_al2 _ _ _⟩
  · have e := Lib.hid (HC.out.2.1 h2)
    have HE : Hid (false = R) := Lib.hid (by rw [← HR.out]; simp [slotLt, ltS, h1, h3])
    go_wp2_with (go_at_call 106; refine (cmpS_c _ _ _).mono ?_; rintro e' w' ⟨rfl, rfl⟩; rw [e.out])
    go_ret
    exact ⟨ret_bool (by rw [← HE.out]; first | done | (simp; omega)), below_al2 _ _ _⟩
theorem l9Ahead_c (w : World) (a b : Slot) : Calls Try.prog 81 #[.agg #[.string a.Topic, .int .i64 a.Part], .agg #[.string b.Topic, .int .i64 b.Part]] w fun e w' => e = .returned (.bool (slotLt a b)) ∧ Below w.heap.size w w' := by
  generalize hR : slotLt a b = R
  have HR := Lib.hid hR
  clear hR
  go_enter Try.func81, Try.ntmps81
  rcases triB a.Topic.toList b.Topic.toList with ⟨h1, h2, h3, h4⟩ | ⟨h1, h2, h3, h4⟩ | ⟨h1, h2, h3, h4⟩
  · have HE : Hid (true = R) := Lib.hid (by rw [← HR.out]; simp [slotLt, ltS, h1])
    go_wp2
    go_ret
    exact ⟨ret_bool (by rw [← HE.out]; first | done | (simp; omega)), below_al2 _ _ _⟩
  · by_cases hp : a.Part < b.Part
    · have HE : Hid (true = R) := Lib.hid (by rw [← HR.out]; simp [slotLt, h3, hp])
      go_wp2
      go_ret
      exact ⟨ret_bool (by rw [← HE.out]; first | done | (simp; omega)), below_al2 _ _ _⟩
    · have HE : Hid (false = R) := Lib.hid (by rw [← HR.out]; simp [slotLt, ltS, h1, hp])
      go_wp2
      go_ret
      exact ⟨ret_bool (by rw [← HE.out]; first | done | (simp; omega)), below_al2 _ _ _⟩
  · have HE : Hid (false = R) := Lib.hid (by rw [← HR.out]; simp [slotLt, ltS, h1, h3])
    go_wp2
    go_ret
    exact ⟨ret_bool (by rw [← HE.out]; first | done | (simp; omega)), below_al2 _ _ _⟩
theorem slotOk_v (w : World) (s : Slot) (hs : s.Topic.size ≤ 1048576) (b : Bool) (hb : slotOkF s = b) : Calls Try.prog 85 #[.agg #[.string s.Topic, .int .i64 s.Part]] w fun e w' => e = .returned (.bool b) ∧ Below w.heap.size w w' := by
  subst hb; exact slotOk_c w s hs
set_option maxHeartbeats 4000000 in
theorem implSlotsOk_c (w : World) (l : List Slot) {A : Option Addr} {c : Nat} (hl : l.length ≤ c) (hg : Row kSlot w A l) (hs : l.length ≤ 1048576 ∧ ∀ s ∈ l, s.sm) :
    Calls Try.prog 44 #[.slice A l.length c] w fun e w' => e = .returned (.bool (slotsF l)) ∧ Below w.heap.size w w' := by
  unfold slotsF
  have HS := Lib.hid hs.2
  have hln := hs.1
  clear hs
  generalize hR : ordF slotOkF slotLt none l = R
  have HR : Hid (ordF slotOkF slotLt (prevO l 0) (l.drop 0) = R) := Lib.hid (by rw [← hR]; rfl)
  clear hR
  have hu2 := Try.underlying71
  have hu := Try.underlying79
  go_enter Try.func44, Try.ntmps44
  go_wp2
  go_loopg [7] l.length (fun g v7 wr => ∃ k : Nat, k + g = l.length ∧ v7 = .int .i64 k ∧ Below w.heap.size w wr ∧ Hid (ordF slotOkF slotLt (prevO l k) (l.drop k) = R))
  case atStart => exact ⟨0, by omega, rfl, Below.refl _ _, HR⟩
  case round =>
    clear HR
    obtain ⟨k, hk, rfl, hb, HD⟩ := hrel
    by_cases hlt : k < l.length
    case neg =>
      have HE : Hid (true = R) := Lib.hid (by rw [← HD.out, ordF_end (by omega)])
      by_cases hn : (l.length : Int) ≤ 400
      · go_wp2
        go_ret
        exact ⟨ret_bool (by rw [← HE.out]; simp; omega), hb⟩
      · go_wp2
        go_ret
        exact ⟨ret_bool (by rw [← HE.out]; simp; omega), hb⟩
    obtain ⟨ad, s, rfl, hx, p0, p1⟩ := Slot.at (Row_below hg hb) k hlt
    have hss := HS.out s (List.mem_of_getElem? hx)
    have HX := Lib.hid (ordF_step (ok := slotOkF) (lt := slotLt) hx)
    clear hx
    have a0 : (wr.alloc (.cells #[.string s.Topic, .int .i64 s.Part] 79)).cell? ⟨wr.heap.size, 0, none⟩ = some (.string s.Topic) := (Box.new wr _ _) 0 _ rfl
    have a1 : (wr.alloc (.cells #[.string s.Topic, .int .i64 s.Part] 79)).cell? ⟨wr.heap.size, 1, none⟩ = some (.int .i64 s.Part) := (Box.new wr _ _) 1 _ rfl
    have hbW := below_al wr (.cells #[.string s.Topic, .int .i64 s.Part] 79)
    have HSm := Lib.hid (show s.Topic.size ≤ 1048576 from hss)
    clear hss
    generalize hnm : slotOkF s = bn at HX
    have HN := Lib.hid hnm
    clear hnm
    have hprev : 0 < k → ∃ q, prevO l k = some q ∧ wr.cell? (ad.add ((k - 1) * 2)) = some (.string q.Topic) ∧ wr.cell? ⟨(ad.add ((k - 1) * 2)).block, (ad.add ((k - 1) * 2)).off + 1, none⟩ = some (.int .i64 q.Part) := fun hk0 => by
      obtain ⟨_, q, he, hq, r0, r1⟩ := Slot.at (Row_below hg hb) (k - 1) (by omega)
      cases he
      exact ⟨q, by have h := prevO_succ hq; rwa [show k - 1 + 1 = k by omega] at h, r0, r1⟩
    go_upto_region 4 with fail
    have HbW := Lib.hid (below_tr hb hbW)
    clear p0 p1
    cases bn with
    | false =>
      have HE : Hid (false = R) := Lib.hid (by rw [← HD.out, HX.out]; simp)
      clear hprev
      generalize wr.alloc (.cells #[.string s.Topic, .int .i64 s.Part] 79) = W8 at a0 a1 hbW HbW ⊢
      have f0 := cg a0
      have f1 := cg a1
      refine wp_region_quiet_below (by kernel_rfl) (by kernel_rfl) ?_
      repeat (go_big_quiet_step ((first | (go_at_call 85; exact rg (slotOk_c _ s HSm.out) (congrArg Value.bool HN.out)))))
      refine wpQuiet_nil ?_
      intro _ hw'
      obtain ⟨pp, hw''⟩ := hw'
      subst hw''
      have hbq := below_tr HbW.out (below_regrown W8 pp.d pp.os)
      go_wp2
      go_ret
      exact ⟨by rw [← HE.out]; simp, hbq⟩
    | true =>
      by_cases hk0 : 0 < k
      case neg =>
        have hki : decide ((0 : Int) < (k : Int)) = false := by simp; omega
        have hkn : decide (0 < k) = false := by simp; omega
        have HE : Hid (ordF slotOkF slotLt (prevO l (k + 1)) (l.drop (k + 1)) = R) := Lib.hid (by rw [← HD.out, HX.out, show prevO l k = none by simp [prevO]; omega]; simp)
        clear hk0 hprev
        generalize wr.alloc (.cells #[.string s.Topic, .int .i64 s.Part] 79) = W8 at a0 a1 hbW HbW ⊢
        have f0 := cg a0
        have f1 := cg a1
        refine wp_region_quiet_below (by kernel_rfl) (by kernel_rfl) ?_
        repeat (go_big_quiet_step ((first | (go_at_call 85; exact rg (slotOk_c _ s HSm.out) (congrArg Value.bool HN.out)))))
        refine wpQuiet_nil ?_
        intro _ hw'
        obtain ⟨pp, hw''⟩ := hw'
        subst hw''
        have hbq := below_tr HbW.out (below_regrown W8 pp.d pp.os)
        go_wp2
        go_roundg (gk - 1)
        case rel => exact ⟨k + 1, by omega, by go_num, hbq, HE⟩
        case measure => omega
      case pos =>
        obtain ⟨q, hP, r0, r1⟩ := hprev hk0
        have HP := Lib.hid hP
        clear hP hprev
        replace r0 := later hbW r0
        replace r1 := later hbW r1
        have hki : decide ((0 : Int) < (k : Int)) = true := by simp; omega
        have hkn : decide (0 < k) = true := by simp; omega
        have hk2 : IntKind.i64.wrap ((k : Int) - 1) = ((k - 1 : Nat) : Int) := by rw [IntWalk.i64_in _ (by omega)]; omega
        generalize hls : slotLt q s = bl
        have HL := Lib.hid hls
        clear hls
        generalize wr.alloc (.cells #[.string s.Topic, .int .i64 s.Part] 79) = W8 at a0 a1 r0 r1 hbW HbW ⊢
        have f0 := cg a0
        have f1 := cg a1
        have g0 := cg r0
        have g1 := cg r1
        cases bl with
        | true =>
          have HE : Hid (ordF slotOkF slotLt (prevO l (k + 1)) (l.drop (k + 1)) = R) := Lib.hid (by rw [← HD.out, HX.out, HP.out]; simp [HL.out])
          refine wp_region_quiet_below (by kernel_rfl) (by kernel_rfl) ?_
          repeat (go_big_quiet_step ((first | (go_at_call 85; exact rg (slotOk_c _ s HSm.out) (congrArg Value.bool HN.out)) | (go_at_call 86; exact rg (slotLess_c _ q s) (congrArg Value.bool HL.out)))))
          refine wpQuiet_nil ?_
          intro _ hw'
          obtain ⟨pp, hw''⟩ := hw'
          subst hw''
          have hbq := below_tr HbW.out (below_regrown W8 pp.d pp.os)
          clear hk2
          go_wp2
          go_roundg (gk - 1)
          case rel => exact ⟨k + 1, by omega, by go_num, hbq, HE⟩
          case measure => omega
        | false =>
          have HE : Hid (false = R) := Lib.hid (by rw [← HD.out, HX.out, HP.out]; simp [HL.out])
          refine wp_region_quiet_below (by kernel_rfl) (by kernel_rfl) ?_
          repeat (go_big_quiet_step ((first | (go_at_call 85; exact rg (slotOk_c _ s HSm.out) (congrArg Value.bool HN.out)) | (go_at_call 86; exact rg (slotLess_c _ q s) (congrArg Value.bool HL.out)))))
          refine wpQuiet_nil ?_
          intro _ hw'
          obtain ⟨pp, hw''⟩ := hw'
          subst hw''
          have hbq := below_tr HbW.out (below_regrown W8 pp.d pp.os)
          clear hk2
          go_wp2
          go_ret
          exact ⟨by rw [← HE.out]; simp, hbq⟩
end Go.Proofs.Ytenldgbabcjjkaa.H
