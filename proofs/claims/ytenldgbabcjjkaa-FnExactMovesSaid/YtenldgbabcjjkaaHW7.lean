/-
The reference's WantsOk, walked. Conditions: each contract's own premises.
-/
import Derived.Test.YtenldgbabcjjkaaHW6
namespace Go.Proofs.Ytenldgbabcjjkaa.H
open Go.RowKit Go.Sort
set_option linter.unusedVariables false
set_option linter.unusedSimpArgs false
set_option maxRecDepth 100000
theorem take_get {α : Type} {l : List α} {k i : Nat} {x : α} (h : l[i]? = some x) (hi : i < k) : (l.take k)[i]? = some x := by rw [List.getElem?_take, if_pos hi]; exact h
set_option maxHeartbeats 8000000 in
theorem specWantsOk_c (w : World) (l : List Want) {A : Option Addr} {c : Nat} (hl : l.length ≤ c) (hg : Row kWant w A l) (hs : l.length ≤ 1048576 ∧ ∀ y ∈ l, y.sm) :
    Calls Try.prog 10 #[.slice A l.length c] w fun e w' => e = .returned (.bool (wantsF l)) ∧ Below w.heap.size w w' := by
  rw [wantsF_eq]
  have HS := Lib.hid hs.2
  have hln := hs.1
  clear hs
  have hu := Try.underlying73
  have hu2 := Try.underlying25
  have hu4 := Try.underlying71
  have hu5 := Try.underlying79
  go_enter Try.func10, Try.ntmps10
  by_cases hn : (30 : Int) < (l.length : Int)
  · go_wp2
    go_ret
    exact ⟨ret_bool (by simp; omega), Below.refl _ _⟩
  have HN30 := Lib.hid hn
  have hn30 : l.length ≤ 30 := by omega
  generalize hR : sF [] none l = R
  have HR : Hid (sF (l.take 0) (prevO l 0) (l.drop 0) = R) := Lib.hid (by rw [← hR]; rfl)
  clear hR
  go_upto_region 4 with fail
  go_loopg [3] l.length (fun g v3 wr => ∃ (k : Nat), k + g = l.length ∧ v3 = .int .i64 k ∧ Below w.heap.size w wr ∧ Hid (sF (l.take k) (prevO l k) (l.drop k) = R))
  case atStart => exact ⟨0, by omega, rfl, Below.refl _ _, HR⟩
  case round =>
    clear HR
    obtain ⟨k, hk, rfl, hb, HD⟩ := hrel
    by_cases hlt : k < l.length
    case neg =>
      have HE : Hid (true = R) := Lib.hid (by rw [← HD.out, List.drop_eq_nil_of_le (show l.length ≤ k by omega)]; cases prevO l k <;> rfl)
      go_wp2
      go_ret
      exact ⟨ret_bool (by rw [← HE.out]; simp; omega), hb⟩
    obtain ⟨ad, s, A1, c1, A2, c2, rfl, hx, p0, p1, p2, l1, g1, l2, g2⟩ := Want.at hg k hlt
    replace p0 := later hb p0
    replace p1 := later hb p1
    replace p2 := later hb p2
    have HSM := Lib.hid (HS.out s (List.mem_of_getElem? hx))
    have HNs := Lib.hid HSM.out.1
    have HWs := Lib.hid HSM.out.2.1
    have HHs := Lib.hid HSM.out.2.2
    have HX := Lib.hid (sW_step hx)
    have HMAP := Lib.hid hx
    clear hx
    have hprev0 : 0 < k → ∃ q, prevO l k = some q ∧ w.cell? (ad.add ((k - 1) * 3)) = some (.string q.Name) := fun hk0 => by
      obtain ⟨_, q, _, _, _, _, he, hq, r0, _⟩ := Want.at hg (k - 1) (by omega)
      cases he
      exact ⟨q, by have h := prevO_succ hq; rwa [show k - 1 + 1 = k by omega] at h, r0⟩
    obtain ⟨B7, hB7⟩ : ∃ n, n = wr.heap.size := ⟨_, rfl⟩
    have X8 := Box.new wr #[.string s.Name, .slice A1 s.Wants.length c1, .slice A2 s.Has.length c2] 73
    have hb8 := below_al wr (.cells #[.string s.Name, .slice A1 s.Wants.length c1, .slice A2 s.Has.length c2] 73)
    have HB8 := Lib.hid (below_tr hb hb8)
    go_upto_region 7 with fail
    generalize wr.alloc (.cells #[.string s.Name, .slice A1 s.Wants.length c1, .slice A2 s.Has.length c2] 73) = W8 at X8 hb8 HB8 ⊢
    have q0 : W8.cell? ⟨wr.heap.size, 0, none⟩ = some (.string s.Name) := X8 0 _ rfl
    have q1 : W8.cell? ⟨wr.heap.size, 1, none⟩ = some (.slice A1 s.Wants.length c1) := X8 1 _ rfl
    have q2 : W8.cell? ⟨wr.heap.size, 2, none⟩ = some (.slice A2 s.Has.length c2) := X8 2 _ rfl
    have hprev : 0 < k → ∃ q, prevO l k = some q ∧ W8.cell? (ad.add ((k - 1) * 3)) = some (.string q.Name) := fun hk0 => by
      obtain ⟨q, h1, h2⟩ := hprev0 hk0
      exact ⟨q, h1, later HB8.out h2⟩
    have X8' := Lib.hid X8
    clear hprev0 X8 p0 p1 p2
    generalize hco : condF (prevO l k) s = co
    have HCO' := Lib.hid hco
    go_cut [50] (fun t wx => t = .bool !co ∧ Hid (Below W8.heap.size W8 wx))
    case first =>
      generalize hnm : nameOk s.Name = bn
      have HN := Lib.hid hnm
      clear hnm
      generalize hnn : namesF s.Wants 20 = bm
      have HM := Lib.hid hnn
      clear hnn
      generalize hns : slotsF s.Has = bs
      have HSL := Lib.hid hns
      clear hns
      have HCO : Hid (co = (bn && bm && bs && (match prevO l k with | none => true | some q => wLt q s))) := Lib.hid (by rw [← hco]; unfold condF wantOkF; rw [HN.out, HM.out, HSL.out]; cases prevO l k <;> rfl)
      clear hco
      have HPR := Lib.hid (show True from trivial)
      have f0 := cg q0
      have f1 := cg q1
      have f2 := cg q2
      cases bn with
      | false =>
        refine wp_region_quiet_below (by kernel_rfl) (by kernel_rfl) ?_
        repeat (go_big_quiet_step ((first | (go_at_call 37; exact rg_same (specNameOk_c _ _ HNs.out) (congrArg Value.bool HN.out)))))
        refine wpQuiet_nil ?_
        intro _ hw'
        obtain ⟨pp, hw''⟩ := hw'
        subst hw''
        have hbq := below_regrown W8 pp.d pp.os
        go_wp2
        all_goals (go_meet; exact ⟨by simp only [Value.bool.injEq]; rw [HCO.out]; first | rfl | (simp [HPR.out]; done), Lib.hid hbq⟩)
      | true =>
        by_cases hk0 : 0 < k
        case neg =>
          have hki : decide ((0 : Int) < (k : Int)) = false := by simp; omega
          have hkn : decide (0 < k) = false := by simp; omega
          have HPR := Lib.hid (show prevO l k = none by simp [prevO]; omega)
          clear hk0 hprev
          cases bm with
          | false =>
            refine wp_region_quiet_below (by kernel_rfl) (by kernel_rfl) ?_
            repeat (go_big_quiet_step ((first | (go_at_call 37; exact rg_same (specNameOk_c _ _ HNs.out) (congrArg Value.bool HN.out)) | (go_at_call 38; exact rg (l9Names_c _ s.Wants l1 (Row_below g1 (below_tr HB8.out (below_regrown _ _ _))) HWs.out) (congrArg Value.bool HM.out)))))
            refine wpQuiet_nil ?_
            intro _ hw'
            obtain ⟨pp, hw''⟩ := hw'
            subst hw''
            have hbq := below_regrown W8 pp.d pp.os
            go_wp2
            all_goals (go_meet; exact ⟨by simp only [Value.bool.injEq]; rw [HCO.out]; first | rfl | (simp [HPR.out]; done), Lib.hid hbq⟩)
          | true =>
            cases bs with
            | false =>
              refine wp_region_quiet_below (by kernel_rfl) (by kernel_rfl) ?_
              repeat (go_big_quiet_step ((first | (go_at_call 37; exact rg_same (specNameOk_c _ _ HNs.out) (congrArg Value.bool HN.out)) | (go_at_call 38; exact rg (l9Names_c _ s.Wants l1 (Row_below g1 (below_tr HB8.out (below_regrown _ _ _))) HWs.out) (congrArg Value.bool HM.out)) | (go_at_call 39; exact rg (l9Slots_c _ s.Has l2 (Row_below g2 (below_tr HB8.out (below_regrown _ _ _))) HHs.out) (congrArg Value.bool HSL.out)))))
              refine wpQuiet_nil ?_
              intro _ hw'
              obtain ⟨pp, hw''⟩ := hw'
              subst hw''
              have hbq := below_regrown W8 pp.d pp.os
              go_wp2
              all_goals (go_meet; exact ⟨by simp only [Value.bool.injEq]; rw [HCO.out]; first | rfl | (simp [HPR.out]; done), Lib.hid hbq⟩)
            | true =>
              refine wp_region_quiet_below (by kernel_rfl) (by kernel_rfl) ?_
              repeat (go_big_quiet_step ((first | (go_at_call 37; exact rg_same (specNameOk_c _ _ HNs.out) (congrArg Value.bool HN.out)) | (go_at_call 38; exact rg (l9Names_c _ s.Wants l1 (Row_below g1 (below_tr HB8.out (below_regrown _ _ _))) HWs.out) (congrArg Value.bool HM.out)) | (go_at_call 39; exact rg (l9Slots_c _ s.Has l2 (Row_below g2 (below_tr HB8.out (below_regrown _ _ _))) HHs.out) (congrArg Value.bool HSL.out)))))
              refine wpQuiet_nil ?_
              intro _ hw'
              obtain ⟨pp, hw''⟩ := hw'
              subst hw''
              have hbq := below_regrown W8 pp.d pp.os
              go_wp2
              all_goals (go_meet; exact ⟨by simp only [Value.bool.injEq]; rw [HCO.out]; first | rfl | (simp [HPR.out]; done), Lib.hid hbq⟩)
        case pos =>
          obtain ⟨q, hP, r0'⟩ := hprev hk0
          have HPR := Lib.hid hP
          clear hP hprev
          have g0 := cg r0'
          have hki : decide ((0 : Int) < (k : Int)) = true := by simp; omega
          have hkn : decide (0 < k) = true := by simp; omega
          have hk2 : IntKind.i64.wrap ((k : Int) - 1) = ((k - 1 : Nat) : Int) := by rw [IntWalk.i64_in _ (by omega)]; omega
          rcases triB q.Name.toList s.Name.toList with ⟨h1, h2, h3, h4⟩ | ⟨h1, h2, h3, h4⟩ | ⟨h1, h2, h3, h4⟩
          · have HLT := Lib.hid (show wLt q s = true from h1)
            cases bm with
            | false =>
              refine wp_region_quiet_below (by kernel_rfl) (by kernel_rfl) ?_
              repeat (go_big_quiet_step ((first | (go_at_call 37; exact rg_same (specNameOk_c _ _ HNs.out) (congrArg Value.bool HN.out)) | (go_at_call 38; exact rg (l9Names_c _ s.Wants l1 (Row_below g1 (below_tr HB8.out (below_regrown _ _ _))) HWs.out) (congrArg Value.bool HM.out)))))
              refine wpQuiet_nil ?_
              intro _ hw'
              obtain ⟨pp, hw''⟩ := hw'
              subst hw''
              have hbq := below_regrown W8 pp.d pp.os
              go_wp2
              all_goals (go_meet; exact ⟨by simp only [Value.bool.injEq]; rw [HCO.out]; first | rfl | (simp [HPR.out, HLT.out]; done), Lib.hid hbq⟩)
            | true =>
              cases bs with
              | false =>
                refine wp_region_quiet_below (by kernel_rfl) (by kernel_rfl) ?_
                repeat (go_big_quiet_step ((first | (go_at_call 37; exact rg_same (specNameOk_c _ _ HNs.out) (congrArg Value.bool HN.out)) | (go_at_call 38; exact rg (l9Names_c _ s.Wants l1 (Row_below g1 (below_tr HB8.out (below_regrown _ _ _))) HWs.out) (congrArg Value.bool HM.out)) | (go_at_call 39; exact rg (l9Slots_c _ s.Has l2 (Row_below g2 (below_tr HB8.out (below_regrown _ _ _))) HHs.out) (congrArg Value.bool HSL.out)))))
                refine wpQuiet_nil ?_
                intro _ hw'
                obtain ⟨pp, hw''⟩ := hw'
                subst hw''
                have hbq := below_regrown W8 pp.d pp.os
                go_wp2
                all_goals (go_meet; exact ⟨by simp only [Value.bool.injEq]; rw [HCO.out]; first | rfl | (simp [HPR.out, HLT.out]; done), Lib.hid hbq⟩)
              | true =>
                refine wp_region_quiet_below (by kernel_rfl) (by kernel_rfl) ?_
                repeat (go_big_quiet_step ((first | (go_at_call 37; exact rg_same (specNameOk_c _ _ HNs.out) (congrArg Value.bool HN.out)) | (go_at_call 38; exact rg (l9Names_c _ s.Wants l1 (Row_below g1 (below_tr HB8.out (below_regrown _ _ _))) HWs.out) (congrArg Value.bool HM.out)) | (go_at_call 39; exact rg (l9Slots_c _ s.Has l2 (Row_below g2 (below_tr HB8.out (below_regrown _ _ _))) HHs.out) (congrArg Value.bool HSL.out)))))
                refine wpQuiet_nil ?_
                intro _ hw'
                obtain ⟨pp, hw''⟩ := hw'
                subst hw''
                have hbq := below_regrown W8 pp.d pp.os
                go_wp2
                all_goals (go_meet; exact ⟨by simp only [Value.bool.injEq]; rw [HCO.out]; first | rfl | (simp [HPR.out, HLT.out]; done), Lib.hid hbq⟩)
          · have HLT := Lib.hid (show wLt q s = false from h1)
            refine wp_region_quiet_below (by kernel_rfl) (by kernel_rfl) ?_
            repeat (go_big_quiet_step ((first | (go_at_call 37; exact rg_same (specNameOk_c _ _ HNs.out) (congrArg Value.bool HN.out)))))
            refine wpQuiet_nil ?_
            intro _ hw'
            obtain ⟨pp, hw''⟩ := hw'
            subst hw''
            have hbq := below_regrown W8 pp.d pp.os
            go_wp2
            all_goals (go_meet; exact ⟨by simp only [Value.bool.injEq]; rw [HCO.out]; first | rfl | (simp [HPR.out, HLT.out]; done), Lib.hid hbq⟩)
          · have HLT := Lib.hid (show wLt q s = false from h1)
            refine wp_region_quiet_below (by kernel_rfl) (by kernel_rfl) ?_
            repeat (go_big_quiet_step ((first | (go_at_call 37; exact rg_same (specNameOk_c _ _ HNs.out) (congrArg Value.bool HN.out)))))
            refine wpQuiet_nil ?_
            intro _ hw'
            obtain ⟨pp, hw''⟩ := hw'
            subst hw''
            have hbq := below_regrown W8 pp.d pp.os
            go_wp2
            all_goals (go_meet; exact ⟨by simp only [Value.bool.injEq]; rw [HCO.out]; first | rfl | (simp [HPR.out, HLT.out]; done), Lib.hid hbq⟩)
    obtain ⟨rfl, hcb⟩ := hcut
    clear hprev hco
    have hbx := below_tr HB8.out hcb.out
    have HX9 := Lib.hid (X8'.out.later hcb.out)
    rw [← hB7] at HX9 ⊢
    clear X8'
    have HB7 := Lib.hid hB7
    clear hB7
    clear q0 q1 q2 hb8 hb
    generalize hT : sF (l.take (k + 1)) (prevO l (k + 1)) (l.drop (k + 1)) = T at HX
    have HT := Lib.hid hT
    clear hT
    have HXC := Lib.hid (show sF (l.take k) (prevO l k) (l.drop k) = (co && (crossF (l.take k) s && T)) by rw [HX.out, HCO'.out])
    cases co with
    | false =>
      have HE : Hid (false = R) := Lib.hid (by rw [← HD.out, HXC.out]; rfl)
      go_wp2
      go_ret
      exact ⟨ret_bool (by rw [← HE.out]; simp), hbx⟩
    | true =>
    have HE : Hid ((((l.take k).drop 0).all (fun v => s.Has.all (fun q => !inF v.Has q)) && T) = R) := Lib.hid (by rw [← HD.out, HXC.out]; rfl)
    clear HX HD HXC
    have HHk := HHs.out.1
    go_upto_region 10 with fail
    go_loopg [5] k (fun g v5 wi => ∃ i : Nat, i + g = k ∧ v5 = .int .i64 i ∧ Below w.heap.size w wi ∧ Hid (Box wi B7 #[.string s.Name, .slice A1 s.Wants.length c1, .slice A2 s.Has.length c2]) ∧ Hid ((((l.take k).drop i).all (fun v => s.Has.all (fun q => !inF v.Has q)) && T) = R))
    case atStart => exact ⟨0, by omega, rfl, hbx, HX9, HE⟩
    case round =>
      clear HE HX9 hbx
      obtain ⟨i, hi, rfl, hb, HX9, HE⟩ := hrel
      by_cases hik : i < k
      case neg =>
        have HE2 : Hid (sF (l.take (k + 1)) (prevO l (k + 1)) (l.drop (k + 1)) = R) := Lib.hid (by rw [HT.out, ← HE.out, List.drop_eq_nil_of_le (by rw [List.length_take]; omega)]; rfl)
        go_wp2
        go_roundg (l.length - k - 1)
        case rel => exact ⟨k + 1, by omega, by go_num, hb, HE2⟩
        case measure => omega
      obtain ⟨_, v, _, _, A4, c4, he, hv, _, _, p2, _, _, l4, g4⟩ := Want.at hg i (by omega)
      cases he
      have HVH := Lib.hid (HS.out v (List.mem_of_getElem? hv)).2.2.1
      have HDG := Lib.hid (drop_get (take_get hv hik))
      clear hv
      generalize hU : (((l.take k).drop (i + 1)).all (fun v => s.Has.all (fun q => !inF v.Has q)) && T) = U
      have HU := Lib.hid hU
      clear hU
      have HE2 : Hid (((s.Has.drop 0).all (fun q => !inF v.Has q) && U) = R) := Lib.hid (by rw [← HE.out, HDG.out, List.all_cons, ← HU.out, Bool.and_assoc]; rfl)
      clear HE HDG
      go_upto_region 13 with fail
      go_loopg [6] s.Has.length (fun g v6 wi => ∃ j : Nat, j + g = s.Has.length ∧ v6 = .int .i64 j ∧ Below w.heap.size w wi ∧ Hid (Box wi B7 #[.string s.Name, .slice A1 s.Wants.length c1, .slice A2 s.Has.length c2]) ∧ Hid (((s.Has.drop j).all (fun q => !inF v.Has q) && U) = R))
      case atStart => exact ⟨0, by omega, rfl, hb, HX9, HE2⟩
      case round =>
        clear HE2 HX9 hb
        obtain ⟨j, hj, rfl, hb, HX9, HE⟩ := hrel
        have q2 : wr.cell? ⟨B7, 2, none⟩ = some (.slice A2 s.Has.length c2) := HX9.out 2 _ rfl
        by_cases hjk : j < s.Has.length
        case neg =>
          have HE2 : Hid ((((l.take k).drop (i + 1)).all (fun v => s.Has.all (fun q => !inF v.Has q)) && T) = R) := Lib.hid (by rw [HU.out, ← HE.out, List.drop_eq_nil_of_le (show s.Has.length ≤ j by omega)]; rfl)
          go_wp2
          go_roundg (k - i - 1)
          case rel => exact ⟨i + 1, by omega, by go_num, hb, HX9, HE2⟩
          case measure => omega
        obtain ⟨ad2, q, rfl, hq, r0, r1⟩ := Slot.at (Row_below g2 hb) j hjk
        have HDG := Lib.hid (drop_get hq)
        clear hq
        have p2' := later hb p2
        generalize hin : inF v.Has q = bi
        have HI := Lib.hid hin
        clear hin
        have HE2 : Hid ((!bi && ((s.Has.drop (j + 1)).all (fun q => !inF v.Has q) && U)) = R) := Lib.hid (by rw [← HE.out, HDG.out, List.all_cons, HI.out, Bool.and_assoc])
        have HB := Lib.hid hb
        clear HE HDG
        go_upto_region 15 with fail
        have f0 := cg r0
        have f1 := cg r1
        have f2 := cg q2
        have f3 := cg p2'
        refine wp_region_quiet_below (by kernel_rfl) (by kernel_rfl) ?_
        repeat (go_big_quiet_step ((first | (go_at_call 40; exact rg (l9In_c _ v.Has q l4 (Row_below g4 (below_tr HB.out (below_regrown _ _ _))) HVH.out) (congrArg Value.bool HI.out)))))
        refine wpQuiet_nil ?_
        intro _ hw'
        obtain ⟨pp, hw''⟩ := hw'
        subst hw''
        have hbq := below_tr HB.out (below_regrown wr pp.d pp.os)
        have HXq := Lib.hid (HX9.out.later (below_regrown wr pp.d pp.os))
        cases bi with
        | true =>
          have HE3 : Hid (false = R) := Lib.hid (by rw [← HE2.out]; rfl)
          go_wp2
          go_ret
          exact ⟨ret_bool (by rw [← HE3.out]; simp), hbq⟩
        | false =>
          have HE3 : Hid (((s.Has.drop (j + 1)).all (fun q => !inF v.Has q) && U) = R) := Lib.hid (by rw [← HE2.out]; rfl)
          go_wp2
          go_roundg (s.Has.length - j - 1)
          case rel => exact ⟨j + 1, by omega, by go_num, hbq, HXq, HE3⟩
          case measure => omega
end Go.Proofs.Ytenldgbabcjjkaa.H
