/-
WantsOk, walked: the program's and the reference's. Conditions: each contract's own premises.
-/
import Derived.Test.YtenldgbabcjjkaaHW5
namespace Go.Proofs.Ytenldgbabcjjkaa.H
open Go.RowKit Go.Sort
set_option linter.unusedVariables false
set_option linter.unusedSimpArgs false
set_option maxRecDepth 100000
theorem okSl_of {x : Want} (hs : x.sm) (hw : x.wf) : x.Has.length ≤ 1048576 ∧ ∀ s ∈ x.Has, okSl s := by
  obtain ⟨_, _, h3⟩ := hs
  obtain ⟨_, _, h4⟩ := hw
  exact ⟨h3.1, fun s hm => ⟨Nat.le_trans (h3.2 s hm) (by simp [maxLen]), (h4.2 s hm).2⟩⟩
theorem ordW_step {l : List Want} {k : Nat} {s : Want} (h : l[k]? = some s) : ordF wantOkF wLt (prevO l k) (l.drop k) = (condF (prevO l k) s && ordF wantOkF wLt (prevO l (k + 1)) (l.drop (k + 1))) := (ordF_step h).trans (by unfold condF; cases prevO l k <;> rfl)
theorem sW_step {l : List Want} {k : Nat} {s : Want} (h : l[k]? = some s) : sF (l.take k) (prevO l k) (l.drop k) = (condF (prevO l k) s && (crossF (l.take k) s && sF (l.take (k + 1)) (prevO l (k + 1)) (l.drop (k + 1)))) := (sF_step h).trans (by unfold condF; cases prevO l k <;> simp [Bool.and_assoc])
theorem info_sl : (Try.prog.info? 71).map (fun i => (i.zero, i.size, i.bytes)) = some (some (.slice none 0 0), 1, 24) := by kernel_rfl
set_option maxHeartbeats 8000000 in
theorem implWantsOk_c (w : World) (l : List Want) {A : Option Addr} {c : Nat} (hl : l.length ≤ c) (hg : Row kWant w A l) (hs : l.length ≤ 1048576 ∧ ∀ y ∈ l, y.sm) (hw : wfList Want.wf l) :
    Calls Try.prog 12 #[.slice A l.length c] w fun e w' => e = .returned (.bool (wantsF l)) ∧ Below w.heap.size w w' := by
  unfold wantsF
  have HS := Lib.hid hs.2
  have hln := hs.1
  have HO := Lib.hid (fun y hy => okSl_of (hs.2 y hy) (hw.2 y hy))
  clear hs hw
  have hu := Try.underlying73
  have hu2 := Try.underlying25
  have hu3 := Try.underlying32
  have hu4 := Try.underlying71
  go_enter Try.func12, Try.ntmps12
  by_cases hn : (30 : Int) < (l.length : Int)
  · go_wp2
    go_ret
    exact ⟨ret_bool (by simp; omega), Below.refl _ _⟩
  have HN30 := Lib.hid hn
  have hn30 : l.length ≤ 30 := by omega
  generalize hR : ordF wantOkF wLt none l = R
  have HR : Hid (ordF wantOkF wLt (prevO l 0) (l.drop 0) = R) := Lib.hid (by rw [← hR]; rfl)
  clear hR
  go_upto_region 5 with fail
  go_loopg [3, 11] l.length (fun g v3 v11 wr => ∃ (k : Nat) (v : Value), k + g = l.length ∧ v11 = .int .i64 k ∧ v3 = v ∧ KO (Ki.slice 79 kSlot) 71 w wr w.heap.size ((l.take k).map (·.Has)) v ∧ Below w.heap.size w wr ∧ Hid (ordF wantOkF wLt (prevO l k) (l.drop k) = R))
  case atStart => exact ⟨0, _, by omega, rfl, rfl, KO.nil, Below.refl _ _, HR⟩
  case round =>
    clear HR
    obtain ⟨k, v, hk, rfl, rfl, hKO, hb, HD⟩ := hrel
    by_cases hlt : k < l.length
    case neg =>
      have HE : Hid (true = R) := Lib.hid (by rw [← HD.out, ordF_end (by omega)])
      rw [List.take_of_length_le (by omega)] at hKO
      have hfl := flat_le 1048576 (l.map (·.Has)) (fun x hx => by obtain ⟨y, hy, rfl⟩ := List.mem_map.1 hx; exact (HO.out y hy).1)
      have hok : ∀ x ∈ l.map (·.Has), x.length ≤ 1048576 ∧ ∀ s ∈ x, okSl s := fun x hx => by obtain ⟨y, hy, rfl⟩ := List.mem_map.1 hx; exact HO.out y hy
      have hlm : (l.map (·.Has)).length = l.length := by simp
      generalize hmp : l.map (·.Has) = ls at hKO hfl hok hlm
      have HMP := Lib.hid hmp
      have hfl2 := Lib.hid (show ls.flatten.length ≤ 1000000000 by rw [hlm] at hfl; omega)
      have hlm2 := Lib.hid (show ls.length ≤ 1048576 by omega)
      have HOK := Lib.hid hok
      clear hlm hfl hok hmp
      obtain ⟨A9, c9, rfl, hc9, hr9⟩ := hKO.read hb
      clear hKO
      go_wp2_with (go_at_call 45; refine (apart_c _ ls hc9 hr9 HOK.out hlm2.out hfl2.out).mono ?_; rintro e w' ⟨rfl, hb2⟩)
      go_ret
      exact ⟨ret_bool (by rw [← HE.out, ← HMP.out]; simp; omega), below_tr hb hb2⟩
    obtain ⟨ad, s, A1, c1, A2, c2, rfl, hx, p0, p1, p2, l1, g1, l2, g2⟩ := Want.at hg k hlt
    replace p0 := later hb p0
    replace p1 := later hb p1
    replace p2 := later hb p2
    have HSM := Lib.hid (HS.out s (List.mem_of_getElem? hx))
    have HNs := Lib.hid HSM.out.1
    have HWs := Lib.hid HSM.out.2.1
    have HHs := Lib.hid HSM.out.2.2
    have HX := Lib.hid (ordW_step hx)
    have HMAP := Lib.hid hx
    clear hx
    have hprev0 : 0 < k → ∃ q, prevO l k = some q ∧ w.cell? (ad.add ((k - 1) * 3)) = some (.string q.Name) := fun hk0 => by
      obtain ⟨_, q, _, _, _, _, he, hq, r0, _⟩ := Want.at hg (k - 1) (by omega)
      cases he
      exact ⟨q, by have h := prevO_succ hq; rwa [show k - 1 + 1 = k by omega] at h, r0⟩
    have X8 := Box.new wr #[.string s.Name, .slice A1 s.Wants.length c1, .slice A2 s.Has.length c2] 73
    have hb8 := below_al wr (.cells #[.string s.Name, .slice A1 s.Wants.length c1, .slice A2 s.Has.length c2] 73)
    have HB8 := Lib.hid (below_tr hb hb8)
    have hK8 := hKO.below hb8
    clear hKO
    go_upto_region 7 with fail
    generalize wr.alloc (.cells #[.string s.Name, .slice A1 s.Wants.length c1, .slice A2 s.Has.length c2] 73) = W8 at X8 hb8 HB8 hK8 ⊢
    have q0 : W8.cell? ⟨wr.heap.size, 0, none⟩ = some (.string s.Name) := X8 0 _ rfl
    have q1 : W8.cell? ⟨wr.heap.size, 1, none⟩ = some (.slice A1 s.Wants.length c1) := X8 1 _ rfl
    have q2 : W8.cell? ⟨wr.heap.size, 2, none⟩ = some (.slice A2 s.Has.length c2) := X8 2 _ rfl
    have hprev : 0 < k → ∃ q, prevO l k = some q ∧ W8.cell? (ad.add ((k - 1) * 3)) = some (.string q.Name) := fun hk0 => by
      obtain ⟨q, h1, h2⟩ := hprev0 hk0
      exact ⟨q, h1, later HB8.out h2⟩
    have X8' := Lib.hid X8
    clear hprev0 X8 p0 p1 p2
    generalize hco : condF (prevO l k) s = co
    have HCO' := Lib.hid hco
    go_cut [46] (fun t wx => t = .bool !co ∧ Hid (Below W8.heap.size W8 wx))
    case first =>
      generalize hnm : nameOk s.Name = bn
      have HN := Lib.hid hnm
      clear hnm
      generalize hnn : namesF s.Wants 20 = bm
      have HM := Lib.hid hnn
      clear hnn
      generalize hns : slotsF s.Has = bs
      have HSL := Lib.hid hns
      clear hns
      have HCO : Hid (co = (bn && bm && bs && (match prevO l k with | none => true | some q => wLt q s))) := Lib.hid (by rw [← hco]; unfold condF wantOkF; rw [HN.out, HM.out, HSL.out]; cases prevO l k <;> rfl)
      clear hco
      have HPR := Lib.hid (show True from trivial)
      have f0 := cg q0
      have f1 := cg q1
      have f2 := cg q2
      cases bn with
      | false =>
        refine wp_region_quiet_below (by kernel_rfl) (by kernel_rfl) ?_
        repeat (go_big_quiet_step ((first | (go_at_call 42; exact rg_same (implNameOk_c _ _ HNs.out) (congrArg Value.bool HN.out)))))
        refine wpQuiet_nil ?_
        intro _ hw'
        obtain ⟨pp, hw''⟩ := hw'
        subst hw''
        have hbq := below_regrown W8 pp.d pp.os
        go_wp2
        all_goals (go_meet; exact ⟨by simp only [Value.bool.injEq]; rw [HCO.out]; first | rfl | (simp [HPR.out]; done), Lib.hid hbq⟩)
      | true =>
        by_cases hk0 : 0 < k
        case neg =>
          have hki : decide ((0 : Int) < (k : Int)) = false := by simp; omega
          have hkn : decide (0 < k) = false := by simp; omega
          have HPR := Lib.hid (show prevO l k = none by simp [prevO]; omega)
          clear hk0 hprev
          cases bm with
          | false =>
            refine wp_region_quiet_below (by kernel_rfl) (by kernel_rfl) ?_
            repeat (go_big_quiet_step ((first | (go_at_call 42; exact rg_same (implNameOk_c _ _ HNs.out) (congrArg Value.bool HN.out)) | (go_at_call 43; exact rg_same (implNamesOk_c _ s.Wants 20 l1 (Row_below g1 (below_tr HB8.out (below_regrown _ _ _))) HWs.out) (congrArg Value.bool HM.out)))))
            refine wpQuiet_nil ?_
            intro _ hw'
            obtain ⟨pp, hw''⟩ := hw'
            subst hw''
            have hbq := below_regrown W8 pp.d pp.os
            go_wp2
            all_goals (go_meet; exact ⟨by simp only [Value.bool.injEq]; rw [HCO.out]; first | rfl | (simp [HPR.out]; done), Lib.hid hbq⟩)
          | true =>
            cases bs with
            | false =>
              refine wp_region_quiet_below (by kernel_rfl) (by kernel_rfl) ?_
              repeat (go_big_quiet_step ((first | (go_at_call 42; exact rg_same (implNameOk_c _ _ HNs.out) (congrArg Value.bool HN.out)) | (go_at_call 43; exact rg_same (implNamesOk_c _ s.Wants 20 l1 (Row_below g1 (below_tr HB8.out (below_regrown _ _ _))) HWs.out) (congrArg Value.bool HM.out)) | (go_at_call 44; exact rg (implSlotsOk_c _ s.Has l2 (Row_below g2 (below_tr HB8.out (below_regrown _ _ _))) HHs.out) (congrArg Value.bool HSL.out)))))
              refine wpQuiet_nil ?_
              intro _ hw'
              obtain ⟨pp, hw''⟩ := hw'
              subst hw''
              have hbq := below_regrown W8 pp.d pp.os
              go_wp2
              all_goals (go_meet; exact ⟨by simp only [Value.bool.injEq]; rw [HCO.out]; first | rfl | (simp [HPR.out]; done), Lib.hid hbq⟩)
            | true =>
              refine wp_region_quiet_below (by kernel_rfl) (by kernel_rfl) ?_
              repeat (go_big_quiet_step ((first | (go_at_call 42; exact rg_same (implNameOk_c _ _ HNs.out) (congrArg Value.bool HN.out)) | (go_at_call 43; exact rg_same (implNamesOk_c _ s.Wants 20 l1 (Row_below g1 (below_tr HB8.out (below_regrown _ _ _))) HWs.out) (congrArg Value.bool HM.out)) | (go_at_call 44; exact rg (implSlotsOk_c _ s.Has l2 (Row_below g2 (below_tr HB8.out (below_regrown _ _ _))) HHs.out) (congrArg Value.bool HSL.out)))))
              refine wpQuiet_nil ?_
              intro _ hw'
              obtain ⟨pp, hw''⟩ := hw'
              subst hw''
              have hbq := below_regrown W8 pp.d pp.os
              go_wp2
              all_goals (go_meet; exact ⟨by simp only [Value.bool.injEq]; rw [HCO.out]; first | rfl | (simp [HPR.out]; done), Lib.hid hbq⟩)
        case pos =>
          obtain ⟨q, hP, r0'⟩ := hprev hk0
          have HPR := Lib.hid hP
          clear hP hprev
          have g0 := cg r0'
          have hki : decide ((0 : Int) < (k : Int)) = true := by simp; omega
          have hkn : decide (0 < k) = true := by simp; omega
          have hk2 : IntKind.i64.wrap ((k : Int) - 1) = ((k - 1 : Nat) : Int) := by rw [IntWalk.i64_in _ (by omega)]; omega
          rcases triB q.Name.toList s.Name.toList with ⟨h1, h2, h3, h4⟩ | ⟨h1, h2, h3, h4⟩ | ⟨h1, h2, h3, h4⟩
          · have HLT := Lib.hid (show wLt q s = true from h1)
            cases bm with
            | false =>
              refine wp_region_quiet_below (by kernel_rfl) (by kernel_rfl) ?_
              repeat (go_big_quiet_step ((first | (go_at_call 42; exact rg_same (implNameOk_c _ _ HNs.out) (congrArg Value.bool HN.out)) | (go_at_call 43; exact rg_same (implNamesOk_c _ s.Wants 20 l1 (Row_below g1 (below_tr HB8.out (below_regrown _ _ _))) HWs.out) (congrArg Value.bool HM.out)))))
              refine wpQuiet_nil ?_
              intro _ hw'
              obtain ⟨pp, hw''⟩ := hw'
              subst hw''
              have hbq := below_regrown W8 pp.d pp.os
              go_wp2
              all_goals (go_meet; exact ⟨by simp only [Value.bool.injEq]; rw [HCO.out]; first | rfl | (simp [HPR.out, HLT.out]; done), Lib.hid hbq⟩)
            | true =>
              cases bs with
              | false =>
                refine wp_region_quiet_below (by kernel_rfl) (by kernel_rfl) ?_
                repeat (go_big_quiet_step ((first | (go_at_call 42; exact rg_same (implNameOk_c _ _ HNs.out) (congrArg Value.bool HN.out)) | (go_at_call 43; exact rg_same (implNamesOk_c _ s.Wants 20 l1 (Row_below g1 (below_tr HB8.out (below_regrown _ _ _))) HWs.out) (congrArg Value.bool HM.out)) | (go_at_call 44; exact rg (implSlotsOk_c _ s.Has l2 (Row_below g2 (below_tr HB8.out (below_regrown _ _ _))) HHs.out) (congrArg Value.bool HSL.out)))))
                refine wpQuiet_nil ?_
                intro _ hw'
                obtain ⟨pp, hw''⟩ := hw'
                subst hw''
                have hbq := below_regrown W8 pp.d pp.os
                go_wp2
                all_goals (go_meet; exact ⟨by simp only [Value.bool.injEq]; rw [HCO.out]; first | rfl | (simp [HPR.out, HLT.out]; done), Lib.hid hbq⟩)
              | true =>
                refine wp_region_quiet_below (by kernel_rfl) (by kernel_rfl) ?_
                repeat (go_big_quiet_step ((first | (go_at_call 42; exact rg_same (implNameOk_c _ _ HNs.out) (congrArg Value.bool HN.out)) | (go_at_call 43; exact rg_same (implNamesOk_c _ s.Wants 20 l1 (Row_below g1 (below_tr HB8.out (below_regrown _ _ _))) HWs.out) (congrArg Value.bool HM.out)) | (go_at_call 44; exact rg (implSlotsOk_c _ s.Has l2 (Row_below g2 (below_tr HB8.out (below_regrown _ _ _))) HHs.out) (congrArg Value.bool HSL.out)))))
                refine wpQuiet_nil ?_
                intro _ hw'
                obtain ⟨pp, hw''⟩ := hw'
                subst hw''
                have hbq := below_regrown W8 pp.d pp.os
                go_wp2
                all_goals (go_meet; exact ⟨by simp only [Value.bool.injEq]; rw [HCO.out]; first | rfl | (simp [HPR.out, HLT.out]; done), Lib.hid hbq⟩)
          · have HLT := Lib.hid (show wLt q s = false from h1)
            refine wp_region_quiet_below (by kernel_rfl) (by kernel_rfl) ?_
            repeat (go_big_quiet_step ((first | (go_at_call 42; exact rg_same (implNameOk_c _ _ HNs.out) (congrArg Value.bool HN.out)))))
            refine wpQuiet_nil ?_
            intro _ hw'
            obtain ⟨pp, hw''⟩ := hw'
            subst hw''
            have hbq := below_regrown W8 pp.d pp.os
            go_wp2
            all_goals (go_meet; exact ⟨by simp only [Value.bool.injEq]; rw [HCO.out]; first | rfl | (simp [HPR.out, HLT.out]; done), Lib.hid hbq⟩)
          · have HLT := Lib.hid (show wLt q s = false from h1)
            refine wp_region_quiet_below (by kernel_rfl) (by kernel_rfl) ?_
            repeat (go_big_quiet_step ((first | (go_at_call 42; exact rg_same (implNameOk_c _ _ HNs.out) (congrArg Value.bool HN.out)))))
            refine wpQuiet_nil ?_
            intro _ hw'
            obtain ⟨pp, hw''⟩ := hw'
            subst hw''
            have hbq := below_regrown W8 pp.d pp.os
            go_wp2
            all_goals (go_meet; exact ⟨by simp only [Value.bool.injEq]; rw [HCO.out]; first | rfl | (simp [HPR.out, HLT.out]; done), Lib.hid hbq⟩)
    obtain ⟨rfl, hcb⟩ := hcut
    clear hprev hco
    have q2' := later hcb.out q2
    have hbx := below_tr HB8.out hcb.out
    have hKx := hK8.below hcb.out
    clear hK8 q0 q1 q2 hb8 hb
    have HXC := Lib.hid (show ordF wantOkF wLt (prevO l k) (l.drop k) = (co && ordF wantOkF wLt (prevO l (k + 1)) (l.drop (k + 1))) by rw [HX.out, HCO'.out])
    cases co with
    | false =>
      have HE : Hid (false = R) := Lib.hid (by rw [← HD.out, HXC.out]; rfl)
      go_wp2
      go_ret
      exact ⟨ret_bool (by rw [← HE.out]; simp), hbx⟩
    | true =>
      have HE : Hid (ordF wantOkF wLt (prevO l (k + 1)) (l.drop (k + 1)) = R) := Lib.hid (by rw [← HD.out, HXC.out]; rfl)
      have HTK := Lib.hid (show (l.take (k + 1)).map (·.Has) = (l.take k).map (·.Has) ++ [s.Has] by rw [List.take_add_one, HMAP.out, Option.toList_some, List.map_append]; rfl)
      obtain ⟨i0, hi, hz0, hz1, hz2⟩ := info_parts info_sl
      go_wp2_with (at_builtin; refine list_KO1 (d := Ki.slice 79 kSlot) rfl _ _ _ rfl w.heap.size 71 i0 _ 24 hu3 hi hz0 hz1 hz2 rfl (by decide) rfl (hKx.below (below_al _ _)) _ _ rfl ⟨A2, c2, rfl, l2, g2⟩ (cell_one_new _ _ _) (by simp [maxLen]; omega) (by simp; omega) (by rw [size_al]; have := hbx.size; omega) ?_; intro v' wa hKa hgra)
      go_roundg (l.length - k - 1)
      case rel => exact ⟨k + 1, v', by omega, by go_num, rfl, by rw [HTK.out]; exact hKa, (below_tr hbx (below_al _ _)).grown hgra (by rw [size_al]; have := hbx.size; omega) hKx.base, HE⟩
      case measure => omega
end Go.Proofs.Ytenldgbabcjjkaa.H
