/-
Where a producer stands in a table: the program's search by halves, the reference's one by one. Conditions: each contract's own premises.
-/
import Derived.Test.YtipemgjgimpmbaaHSeen1
namespace Go.Proofs.Ytipemgjgimpmbaa.H
open Go.RowKit
set_option linter.unusedVariables false
set_option linter.unusedSimpArgs false
set_option maxRecDepth 100000
def seenAt (p : Int) : List Seen → Nat
  | [] => 0
  | s :: r => if s.Producer < p then seenAt p r + 1 else 0
def hasAt (p : Int) (l : List Seen) : Bool := match l[seenAt p l]? with
  | some s => decide (s.Producer = p)
  | none => false
theorem seenAt_le (p : Int) : ∀ l : List Seen, seenAt p l ≤ l.length
  | [] => Nat.le_refl _
  | s :: r => by
    rw [seenAt, List.length_cons]
    have := seenAt_le p r
    split <;> omega
theorem seenAt_is (p : Int) : ∀ (l : List Seen) (i : Nat), (∀ q s, q < i → l[q]? = some s → s.Producer < p) → (∀ s, l[i]? = some s → ¬ s.Producer < p) → i ≤ l.length → seenAt p l = i
  | [], i, _, _, h => by simp at h; rw [h]; rfl
  | s :: r, 0, _, h, _ => by rw [seenAt, if_neg (h s rfl)]
  | s :: r, i + 1, h1, h2, h3 => by
    rw [seenAt, if_pos (h1 0 s (by omega) rfl), seenAt_is p r i (fun q t hq ht => h1 (q + 1) t (by omega) (by simpa using ht)) (fun t ht => h2 t (by simpa using ht)) (by simpa using h3)]
def Srt (l : List Seen) : Prop := ∀ (i j : Nat) (a b : Seen), i < j → l[i]? = some a → l[j]? = some b → a.Producer < b.Producer
theorem tblB_srt : ∀ (l : List Seen) (p : Int), tblB l p = true → (∀ s ∈ l, p < s.Producer ∧ snA s = true ∧ rcs s.Next s.Recent = true) ∧ Srt l
  | [], _, _ => ⟨by simp, fun i j a b _ h => by simp at h⟩
  | s :: r, p, h => by
    rw [tblB_cons] at h
    simp only [Bool.and_eq_true, decide_eq_true_eq] at h
    obtain ⟨⟨⟨h1, h2⟩, h3⟩, h4⟩ := h
    obtain ⟨h5, h6⟩ := tblB_srt r _ h4
    refine ⟨fun t ht => ?_, fun i j a b hij ha hb => ?_⟩
    · rcases List.mem_cons.1 ht with rfl | ht
      · exact ⟨h2, h1, h3⟩
      · have := h5 t ht
        exact ⟨by omega, this.2⟩
    · cases j with
      | zero => omega
      | succ j =>
        simp only [List.getElem?_cons_succ] at hb
        cases i with
        | zero =>
          simp only [List.getElem?_cons_zero, Option.some.injEq] at ha
          subst ha
          exact (h5 b (List.mem_of_getElem? hb)).1
        | succ i =>
          simp only [List.getElem?_cons_succ] at ha
          exact h6 i j a b (by omega) ha hb
theorem tableOk_all {l : List Seen} (h : tableOk l = true) : l.length ≤ 100 ∧ Srt l ∧ ∀ s ∈ l, snA s = true ∧ rcs s.Next s.Recent = true := by
  unfold tableOk at h
  simp only [Bool.and_eq_true, decide_eq_true_eq] at h
  obtain ⟨h1, h2⟩ := tblB_srt l _ h.2
  exact ⟨h.1, h2, fun s hs => (h1 s hs).2⟩
theorem snA_facts {s : Seen} (h : snA s = true) : (0 ≤ s.Producer ∧ s.Producer ≤ 1000000000) ∧ (0 ≤ s.Turn ∧ s.Turn ≤ 1000) ∧ (0 ≤ s.Next ∧ s.Next ≤ 1000000001) ∧ s.Recent.length ≤ 5 := by
  simp only [snA, inB, Bool.and_eq_true, decide_eq_true_eq] at h
  omega
set_option maxHeartbeats 4000000 in
theorem cmpSeen_c (w : World) (s : Seen) (p : Int) {A : Option Addr} {c : Nat} (h0 : 0 ≤ s.Producer ∧ s.Producer ≤ 1000000000) (h1 : -1 ≤ p ∧ p ≤ 1000000000) :
    Calls Try.prog 105 #[.agg #[.int .i64 s.Producer, .int .i64 s.Turn, .int .i64 s.Next, .slice A s.Recent.length c], .int .i64 p] w fun e w' => e = .returned (.int .i64 (s.Producer - p)) ∧ Below w.heap.size w w' := by
  obtain ⟨h0a, h0b⟩ := h0
  obtain ⟨h1a, h1b⟩ := h1
  have hw : IntKind.i64.wrap (s.Producer - p) = s.Producer - p := IntWalk.i64_in _ (by omega)
  have hu := Try.underlying101
  go_enter Try.func105, Try.ntmps105
  go_wp2
  go_ret
  exact ⟨rfl, below_al _ _⟩
def HasAt (p : Int) (l : List Seen) (w : World) (en : Ending) (w' : World) : Prop := en = .returned (.tuple #[.int .i64 (seenAt p l : Nat), .bool (hasAt p l)]) ∧ Below w.heap.size w w'
set_option maxHeartbeats 4000000 in
theorem l7At_c (w : World) (l : List Seen) (p : Int) {A : Option Addr} {c : Nat} (hc : l.length ≤ c) (hr : Row kSeen w A l) (hl : l.length ≤ 1048576) :
    Calls Try.prog 64 #[.slice A l.length c, .int .i64 p] w (HasAt p l w) := by
  have hu := Try.underlying101
  have hu2 := Try.underlying46
  go_enter Try.func64, Try.ntmps64
  go_upto_region 2 with fail
  go_loopg [6] l.length (fun g v6 wr => ∃ k : Nat, k + g = l.length ∧ v6 = .int .i64 k ∧ wr = w ∧ Hid (∀ q s, q < k → l[q]? = some s → s.Producer < p))
  case atStart => exact ⟨0, by omega, rfl, rfl, Lib.hid (fun q s h => by omega)⟩
  case round =>
    obtain ⟨k, hk, rfl, hrel, HQ⟩ := hrel
    subst hrel
    by_cases hlt : k < l.length
    case neg =>
      have HE : Hid (seenAt p l = k) := Lib.hid (seenAt_is p l k HQ.out (fun s hs => by have := (List.getElem?_eq_some_iff.1 hs).1; omega) (by omega))
      have HH : Hid (hasAt p l = false) := Lib.hid (by unfold hasAt; rw [HE.out, List.getElem?_eq_none (by omega)])
      have hd : decide ((k : Int) < (l.length : Int)) = false := by simp; omega
      go_upto_region 4 with fail
      go_quiet (fail)
      go_wp2
      refine bodyPost_ret (v := .tuple #[.int .i64 k, .bool false]) (by simp [results, Try.results64, go_sem]) rfl ?_
      exact ⟨by rw [HE.out, HH.out], below_dn (Below.refl _ _) _⟩
    case pos =>
      obtain ⟨ad, s, A3, c3, rfl, hx, p0, p1, p2, p3, l3, g3⟩ := Seen.at hr k hlt
      have HX := Lib.hid hx
      clear hx
      have hd : decide ((k : Int) < (l.length : Int)) = true := by simp; omega
      by_cases hlp : s.Producer < p
      case pos =>
        have HN : Hid (∀ q t, q < k + 1 → l[q]? = some t → t.Producer < p) := Lib.hid (fun q t hq ht => by
          by_cases e : q = k
          · subst e
            rw [HX.out] at ht
            cases ht
            exact hlp
          · exact HQ.out q t (by omega) ht)
        go_wp2
        go_roundg (gk - 1)
        case rel => exact ⟨k + 1, by omega, by go_num, rfl, HN⟩
        case measure => omega
      case neg =>
        have HE : Hid (seenAt p l = k) := Lib.hid (seenAt_is p l k HQ.out (fun t ht => by rw [HX.out] at ht; cases ht; exact hlp) (by omega))
        have HH : Hid (hasAt p l = decide (s.Producer = p)) := Lib.hid (by unfold hasAt; rw [HE.out, HX.out])
        generalize hb1 : decide (s.Producer = p) = b1 at HH
        have hp1 : (s.Producer == p) = b1 := by rw [← hb1]; rfl
        clear hb1
        cases b1
        all_goals
          go_upto_region 4 with fail
          go_quiet (fail)
          go_wp2
        · refine bodyPost_ret (v := .tuple #[.int .i64 k, .bool false]) (by simp [results, Try.results64, go_sem]) rfl ?_
          exact ⟨by rw [HE.out, HH.out], below_dn (Below.refl _ _) _⟩
        · refine bodyPost_ret (v := .tuple #[.int .i64 k, .bool true]) (by simp [results, Try.results64, go_sem]) rfl ?_
          exact ⟨by rw [HE.out, HH.out], below_dn (Below.refl _ _) _⟩
set_option maxHeartbeats 8000000 in
theorem search_c (w : World) (l : List Seen) (p : Int) {A : Option Addr} {c : Nat} (hc : l.length ≤ c) (hr : Row kSeen w A l) (hl : l.length ≤ 100) (hst : Srt l) (hP : ∀ s ∈ l, 0 ≤ s.Producer ∧ s.Producer ≤ 1000000000) (h1 : -1 ≤ p ∧ p ≤ 1000000000) :
    Calls Try.prog 104 #[.slice A l.length c, .int .i64 p, .func (.func 105) #[] #[]] w (HasAt p l w) := by
  have HS := Lib.hid hst
  have HP := Lib.hid hP
  have H1 := Lib.hid h1
  clear hst hP h1
  have hu := Try.underlying101
  have hu2 := Try.underlying46
  go_enter Try.func104, Try.ntmps104
  go_upto_region 3 with fail
  go_loopg [9, 10, 11] l.length (fun g v9 v10 v11 wr => ∃ i j : Nat, j - i = g ∧ i ≤ j ∧ j ≤ l.length ∧ v9 = .int .i64 i ∧ v10 = .int .i64 j ∧ Below w.heap.size w wr ∧ Hid (∀ q s, q < i → l[q]? = some s → s.Producer < p) ∧ Hid (∀ q s, j ≤ q → l[q]? = some s → ¬ s.Producer < p))
  case atStart => exact ⟨0, l.length, by omega, by omega, by omega, rfl, rfl, Below.refl _ _, Lib.hid (fun q s h => by omega), Lib.hid (fun q s h hq => by have := (List.getElem?_eq_some_iff.1 hq).1; omega)⟩
  case round =>
    obtain ⟨i, j, hg, hij, hjl, rfl, rfl, hb, HI, HJ⟩ := hrel
    by_cases hlt : i < j
    case pos =>
      have hw1 : IntKind.i64.wrap ((i : Int) + (j : Int)) = ((i + j : Nat) : Int) := by rw [IntWalk.i64_in _ (by omega)]; omega
      obtain ⟨m, hm⟩ : ∃ m, m = (i + j) / 2 := ⟨_, rfl⟩
      have hm1 : i ≤ m := by omega
      have hm2 : m < j := by omega
      have HM := Lib.hid hm
      clear hm
      go_upto_region 5 with fail
      rw [show ((i : Int) + (j : Int)) / 2 = (m : Int) by have := HM.out; omega]
      clear hw1
      obtain ⟨ad, s, A3, c3, rfl, hx, p0, p1, p2, p3, l3, g3⟩ := Seen.at (Row_below hr hb) m (by omega)
      have HX := Lib.hid hx
      have HPs := Lib.hid (HP.out s (List.mem_of_getElem? hx))
      clear hx
      by_cases hlp : s.Producer < p
      case pos =>
        have hlq : s.Producer - p < 0 := by omega
        have HN : Hid (∀ q t, q < m + 1 → l[q]? = some t → t.Producer < p) := Lib.hid (fun q t hq ht => by
          by_cases e : q = m
          · subst e
            rw [HX.out] at ht
            cases ht
            exact hlp
          · have := HS.out q m t s (by omega) ht HX.out
            omega)
        clear hlp
        go_wp2_with (go_at_call 105; refine (cmpSeen_c _ s p HPs.out H1.out).mono ?_; rintro e w3 ⟨rfl, hb3⟩)
        go_roundg (j - m - 1)
        case rel => exact ⟨m + 1, j, by omega, by omega, by omega, by go_num, rfl, below_tr hb hb3, HN, HJ⟩
        case measure => omega
      case neg =>
        have hlq : ¬ s.Producer - p < 0 := by omega
        have HN : Hid (∀ q t, m ≤ q → l[q]? = some t → ¬ t.Producer < p) := Lib.hid (fun q t hq ht => by
          by_cases e : q = m
          · subst e
            rw [HX.out] at ht
            cases ht
            exact hlp
          · have := HS.out m q s t (by omega) HX.out ht
            omega)
        clear hlp
        go_wp2_with (go_at_call 105; refine (cmpSeen_c _ s p HPs.out H1.out).mono ?_; rintro e w3 ⟨rfl, hb3⟩)
        go_roundg (m - i)
        case rel => exact ⟨i, m, by omega, by omega, by omega, rfl, rfl, below_tr hb hb3, HI, HN⟩
        case measure => omega
    case neg =>
      obtain rfl : i = j := by omega
      have HE : Hid (seenAt p l = i) := Lib.hid (seenAt_is p l i HI.out (fun s hs => HJ.out i s (by omega) hs) (by omega))
      by_cases hil : i < l.length
      case neg =>
        have HH : Hid (hasAt p l = false) := Lib.hid (by unfold hasAt; rw [HE.out, List.getElem?_eq_none (by omega)])
        have hd : decide ((i : Int) < (l.length : Int)) = false := by simp; omega
        have hd2 : ¬ ((i : Int) < (l.length : Int)) := by omega
        go_wp2
        refine bodyPost_ret (v := .tuple #[.int .i64 i, .bool false]) (by simp [results, Try.results104, go_sem]) rfl ?_
        exact ⟨by rw [HE.out, HH.out], hb⟩
      case pos =>
        obtain ⟨ad, s, A3, c3, rfl, hx, p0, p1, p2, p3, l3, g3⟩ := Seen.at (Row_below hr hb) i hil
        have HX := Lib.hid hx
        have HPs := Lib.hid (HP.out s (List.mem_of_getElem? hx))
        have HH : Hid (hasAt p l = decide (s.Producer = p)) := Lib.hid (by unfold hasAt; rw [HE.out, hx])
        clear hx
        have hd2 : (i : Int) < (l.length : Int) := by omega
        generalize hb1 : decide (s.Producer = p) = b1 at HH
        have hp1 : (s.Producer - p == 0) = b1 := by rw [← hb1, Bool.eq_iff_iff]; simp; omega
        clear hb1
        cases b1
        · go_wp2_with (go_at_call 105; refine (cmpSeen_c _ s p HPs.out H1.out).mono ?_; rintro e w3 ⟨rfl, hb3⟩)
          refine bodyPost_ret (v := .tuple #[.int .i64 i, .bool false]) (by simp [results, Try.results104, go_sem]) rfl ?_
          exact ⟨by rw [HE.out, HH.out], below_tr hb hb3⟩
        · go_wp2_with (go_at_call 105; refine (cmpSeen_c _ s p HPs.out H1.out).mono ?_; rintro e w3 ⟨rfl, hb3⟩)
          refine bodyPost_ret (v := .tuple #[.int .i64 i, .bool true]) (by simp [results, Try.results104, go_sem]) rfl ?_
          exact ⟨by rw [HE.out, HH.out], below_tr hb hb3⟩
set_option maxHeartbeats 4000000 in
theorem findSeen_c (w : World) (l : List Seen) (p : Int) {A : Option Addr} {c : Nat} (hc : l.length ≤ c) (hr : Row kSeen w A l) (hl : l.length ≤ 100) (hst : Srt l) (hP : ∀ s ∈ l, 0 ≤ s.Producer ∧ s.Producer ≤ 1000000000) (h1 : -1 ≤ p ∧ p ≤ 1000000000) :
    Calls Try.prog 70 #[.slice A l.length c, .int .i64 p] w (HasAt p l w) := by
  have HS := Lib.hid hst
  have HP := Lib.hid hP
  have H1 := Lib.hid h1
  clear hst hP h1
  go_enter Try.func70, Try.ntmps70
  go_wp2_with (go_at_call 104; refine (search_c _ l p hc hr hl HS.out HP.out H1.out).mono ?_; rintro e w3 ⟨rfl, hb3⟩)
  refine bodyPost_ret (v := .tuple #[.int .i64 (seenAt p l : Nat), .bool (hasAt p l)]) (by simp [results, Try.results70, go_sem]) rfl ?_
  exact ⟨rfl, hb3⟩
end Go.Proofs.Ytipemgjgimpmbaa.H
