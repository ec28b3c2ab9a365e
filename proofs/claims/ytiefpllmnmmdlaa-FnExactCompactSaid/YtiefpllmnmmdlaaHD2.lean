/-
The reference's l4Goes. Conditions: each contract's own premises.
-/
import Derived.Test.YtiefpllmnmmdlaaHD1
namespace Go.Proofs.Ytiefpllmnmmdlaa.H
open Go.RowKit
set_option linter.unusedVariables false
set_option linter.unusedSimpArgs false
set_option maxRecDepth 100000
theorem BatchAt {w : World} {A : Option Addr} {L : List Batch} (h : Row kBatch w A L) {i : Nat} {b : Batch} (hb : L[i]? = some b) : ∃ bd A6 c6, A = some bd ∧ w.cell? (bd.add (i * 7)) = some (.int .i64 b.Base) ∧ w.cell? ⟨(bd.add (i * 7)).block, (bd.add (i * 7)).off + 1, none⟩ = some (.int .i64 b.Epoch) ∧ w.cell? ⟨(bd.add (i * 7)).block, (bd.add (i * 7)).off + 2, none⟩ = some (.int .i64 b.Producer) ∧ w.cell? ⟨(bd.add (i * 7)).block, (bd.add (i * 7)).off + 3, none⟩ = some (.int .i64 b.Turn) ∧ w.cell? ⟨(bd.add (i * 7)).block, (bd.add (i * 7)).off + 4, none⟩ = some (.int .i64 b.Seq) ∧ w.cell? ⟨(bd.add (i * 7)).block, (bd.add (i * 7)).off + 5, none⟩ = some (.int .i64 b.Flags) ∧ w.cell? ⟨(bd.add (i * 7)).block, (bd.add (i * 7)).off + 6, none⟩ = some (.slice A6 b.Records.length c6) ∧ b.Records.length ≤ c6 ∧ Row kRecord w A6 b.Records := by
  obtain ⟨hi, rfl⟩ := List.getElem?_eq_some_iff.1 hb
  obtain ⟨bd, b', A6, c6, rfl, hbx, r0, r1, r2, r3, r4, r5, r6, l6, g6⟩ := Batch.at h i hi
  rw [List.getElem?_eq_getElem hi] at hbx
  cases hbx
  exact ⟨bd, A6, c6, rfl, r0, r1, r2, r3, r4, r5, r6, l6, g6⟩
theorem hit_cons (tt : Int) (b : Batch) (n : Nat) (x : Record) (l : List ByteArray) (key : ByteArray) : hitF ((if eligF tt b n x then [x.Key] else []) ++ l) key = ((eligF tt b n x && (x.Key.toList == key.toList)) || hitF l key) := by
  rw [hit_app]
  cases eligF tt b n x <;> simp [hitF]
theorem hit_max {tt : Int} {x : Batch} {n lo : Nat} {y : Record} {l : List Record} (h : l[n]? = some y) (T : List ByteArray) (key : ByteArray) : hitF (kB tt x (l.drop (max n lo)) (max n lo) ++ T) key = ((decide (lo ≤ n) && eligF tt x n y && (y.Key.toList == key.toList)) || hitF (kB tt x (l.drop (max (n + 1) lo)) (max (n + 1) lo) ++ T) key) := by
  by_cases hlo : lo ≤ n
  · rw [Nat.max_eq_left hlo, Nat.max_eq_left (by omega), kB_step h, List.append_assoc, hit_cons]
    simp [hlo]
  · rw [Nat.max_eq_right (by omega), Nat.max_eq_right (by omega)]
    simp [hlo]
set_option maxHeartbeats 8000000 in
theorem l4Goes_c (w : World) (L : List Batch) {A : Option Addr} {c : Nat} (hc : L.length ≤ c) (hr : Row kBatch w A L) (hl : L.length ≤ 400) (hF : ∀ b ∈ L, fOk b) (hS : ∀ b ∈ L, b.Records.length ≤ 1048576)
    (i k : Nat) (tt now keep : Int) (b : Batch) (r : Record) (hb : L[i]? = some b) (hrk : b.Records[k]? = some r) (hn : 0 ≤ now ∧ now ≤ 1000000000000) (hk : 0 ≤ keep ∧ keep ≤ 1000000000000) :
    Calls Try.prog 20 #[.slice A L.length c, .int .i64 i, .int .i64 k, .int .i64 tt, .int .i64 now, .int .i64 keep] w fun e w' => e = .returned (.bool (goesF tt (now - keep) b (kB tt b (b.Records.drop (k + 1)) (k + 1) ++ kL tt (L.drop (i + 1))) k r)) ∧ Below w.heap.size w w' := by
  have HF := Lib.hid hF
  have HS := Lib.hid hS
  have HB := Lib.hid hb
  obtain ⟨hn0, hn1⟩ := hn
  obtain ⟨hk0, hk1⟩ := hk
  have hil : i < L.length := (List.getElem?_eq_some_iff.1 hb).1
  have hkl : k < b.Records.length := (List.getElem?_eq_some_iff.1 hrk).1
  have hbl := hS b (List.mem_of_getElem? hb)
  obtain ⟨_, ⟨fb1, fb2⟩, ⟨ff1, ff2⟩, _, _⟩ := hF b (List.mem_of_getElem? hb)
  obtain ⟨bd, A6, c6, rfl, r0, r1, r2, r3, r4, r5, r6, l6, g6⟩ := BatchAt hr hb
  obtain ⟨ad, r', A5, c5, rfl, hrx, p0, p1, p2, p3, p4, p5, l5, g5⟩ := Record.at g6 k hkl
  obtain rfl : r' = r := by rw [hrk] at hrx; exact (Option.some.inj hrx).symm
  clear hF hS hb hrk hrx
  have hu := Try.underlying48
  have hu2 := Try.underlying42
  have hu3 := Try.underlying53
  have hu4 := Try.underlying46
  generalize hR : goesF tt (now - keep) b (kB tt b (b.Records.drop (k + 1)) (k + 1) ++ kL tt (L.drop (i + 1))) k r' = R
  have HR := Lib.hid hR
  clear hR
  go_enter Try.func20, Try.ntmps20
  go_upto_region 2 with fail
  have h1 := below_al w (.cells #[.int .i64 b.Base, .int .i64 b.Epoch, .int .i64 b.Producer, .int .i64 b.Turn, .int .i64 b.Seq, .int .i64 b.Flags, .slice (some ad) b.Records.length c6] 48)
  have X13 := Box.new w #[.int .i64 b.Base, .int .i64 b.Epoch, .int .i64 b.Producer, .int .i64 b.Turn, .int .i64 b.Seq, .int .i64 b.Flags, .slice (some ad) b.Records.length c6] 48
  generalize w.alloc (.cells #[.int .i64 b.Base, .int .i64 b.Epoch, .int .i64 b.Producer, .int .i64 b.Turn, .int .i64 b.Seq, .int .i64 b.Flags, .slice (some ad) b.Records.length c6] 48) = W1 at h1 X13 ⊢
  replace p0 := later h1 p0
  replace p1 := later h1 p1
  replace p2 := later h1 p2
  replace p3 := later h1 p3
  replace p4 := later h1 p4
  replace p5 := later h1 p5
  have a0 := X13 0 _ rfl
  have a5 := X13 5 _ rfl
  have a6 := X13 6 _ rfl
  clear r0 r1 r2 r3 r4 r5 r6
  go_upto_region 3 with fail
  have h2 := below_al W1 (.cells #[.int .i64 r'.Time, .bool r'.Keyed, .string r'.Key, .bool r'.Gone, .string r'.Value, .slice A5 r'.Heads.length c5] 53)
  have X14 := Box.new W1 #[.int .i64 r'.Time, .bool r'.Keyed, .string r'.Key, .bool r'.Gone, .string r'.Value, .slice A5 r'.Heads.length c5] 53
  generalize W1.alloc (.cells #[.int .i64 r'.Time, .bool r'.Keyed, .string r'.Key, .bool r'.Gone, .string r'.Value, .slice A5 r'.Heads.length c5] 53) = W2 at h2 X14 ⊢
  replace X13 := X13.later h2
  clear a0 a5 a6 p0 p1 p2 p3 p4 p5
  have h12 := below_tr h1 h2
  have a0 := X13 0 _ rfl
  have a5 := X13 5 _ rfl
  have q0 := X14 0 _ rfl
  have q1 := X14 1 _ rfl
  have q3 := X14 3 _ rfl
  have HX14 := Lib.hid X14
  clear X13 X14 h1 h2
  generalize hel : eligF tt b k r' = el
  have HEL := Lib.hid hel
  go_cut [42] (fun s wx => s = .bool !el ∧ W2 = wx)
  case first =>
    subst hel
    go_wp2
    all_goals (go_meet; exact ⟨by simp only [Value.bool.injEq]; grind [eligF], rfl⟩)
  obtain ⟨rfl, rfl⟩ := hcut
  clear hel
  cases el with
  | false =>
    have HE : Hid (false = R) := Lib.hid (by rw [← HR.out]; simp [goesF, HEL.out])
    go_wp2
    go_ret
    exact ⟨ret_bool (by rw [← HE.out]), h12⟩
  | true =>
  go_upto_region 5 with fail
  generalize hol : oldF (now - keep) r' = ol
  have HOL := Lib.hid hol
  go_cut [52] (fun s wx => s = .bool ol ∧ W2 = wx)
  case first =>
    subst hol
    go_wp2
    all_goals (go_meet; exact ⟨by simp only [Value.bool.injEq]; grind [oldF], rfl⟩)
  obtain ⟨rfl, rfl⟩ := hcut
  clear hol
  cases ol with
  | true =>
    have HE : Hid (true = R) := Lib.hid (by rw [← HR.out]; simp [goesF, HEL.out, HOL.out])
    go_wp2
    go_ret
    exact ⟨ret_bool (by rw [← HE.out]), h12⟩
  | false =>
  have HE : Hid (hitF (curK tt L i k i ++ kL tt (L.drop (i + 1))) r'.Key = R) := Lib.hid (by rw [← HR.out]; simp [goesF, HEL.out, HOL.out, curK, HB.out])
  clear HR
  go_upto_region 8 with fail
  go_loopg [15] (L.length - i) (fun g v15 wr => ∃ j : Nat, j + g = L.length ∧ i ≤ j ∧ v15 = .int .i64 j ∧ Below w.heap.size w wr ∧ Hid (Box wr W1.heap.size #[.int .i64 r'.Time, .bool r'.Keyed, .string r'.Key, .bool r'.Gone, .string r'.Value, .slice A5 r'.Heads.length c5]) ∧ Hid (hitF (curK tt L i k j ++ kL tt (L.drop (j + 1))) r'.Key = R))
  case atStart => exact ⟨i, by omega, Nat.le_refl _, rfl, h12, HX14, HE⟩
  case round =>
    clear HE HX14 h12 a0 a5 q0 q1 q3
    obtain ⟨j, hj, hij, rfl, hb, HX, HE⟩ := hrel
    by_cases hlt : j < L.length
    case neg =>
      have HE2 : Hid (false = R) := Lib.hid (by rw [← HE.out, List.drop_eq_nil_of_le (by omega)]; unfold curK; rw [List.getElem?_eq_none (by omega)]; rfl)
      go_wp2
      go_ret
      exact ⟨ret_bool (by rw [← HE2.out]), hb⟩
    have hxb : L[j]? = some L[j] := List.getElem?_eq_getElem hlt
    generalize L[j] = x at hxb
    obtain ⟨_, A7, c7, he, s0, s1, s2, s3, s4, s5, s6, m6, n6⟩ := BatchAt (Row_below hr hb) hxb
    cases he
    obtain ⟨_, ⟨gb1, gb2⟩, ⟨gf1, gf2⟩, _, _⟩ := HF.out x (List.mem_of_getElem? hxb)
    have hxl := HS.out x (List.mem_of_getElem? hxb)
    generalize hlo : (if j = i then k + 1 else 0) = lo
    have HLO := Lib.hid hlo
    clear hlo
    have HCU : Hid (curK tt L i k j = kB tt x (x.Records.drop lo) lo) := Lib.hid (by unfold curK; rw [hxb]; simp only; rw [HLO.out])
    have HXB := Lib.hid hxb
    clear hxb
    have HE2 : Hid (hitF (kB tt x (x.Records.drop (max 0 lo)) (max 0 lo) ++ kL tt (L.drop (j + 1))) r'.Key = R) := Lib.hid (by rw [← HE.out, HCU.out, Nat.zero_max])
    clear HE HCU
    go_upto_region 11 with fail
    go_loopg [16] x.Records.length (fun g v16 wi => ∃ n : Nat, n + g = x.Records.length ∧ v16 = .int .i64 n ∧ Below w.heap.size w wi ∧ Hid (Box wi W1.heap.size #[.int .i64 r'.Time, .bool r'.Keyed, .string r'.Key, .bool r'.Gone, .string r'.Value, .slice A5 r'.Heads.length c5]) ∧ Hid (hitF (kB tt x (x.Records.drop (max n lo)) (max n lo) ++ kL tt (L.drop (j + 1))) r'.Key = R))
    case atStart => exact ⟨0, by omega, rfl, hb, HX, HE2⟩
    case round =>
      clear HE2 HX hb s0 s1 s2 s3 s4 s5 s6 n6
      obtain ⟨n, hn, rfl, hb, HX, HE⟩ := hrel
      by_cases hlt2 : n < x.Records.length
      case neg =>
        have HE3 : Hid (hitF (curK tt L i k (j + 1) ++ kL tt (L.drop (j + 1 + 1))) r'.Key = R) := Lib.hid (by rw [← cur_next hij, ← HE.out, List.drop_eq_nil_of_le (show x.Records.length ≤ max n lo by omega)]; rfl)
        obtain ⟨_, A8, c8, he, s0, s1, s2, s3, s4, s5, s6, m8, n8⟩ := BatchAt (Row_below hr hb) HXB.out
        cases he
        go_wp2
        go_roundg (L.length - j - 1)
        case rel => exact ⟨j + 1, by omega, by omega, by go_num, hb, HX, HE3⟩
        case measure => omega
      obtain ⟨_, A8, c8, he, s0, s1, s2, s3, s4, s5, s6, m8, n8⟩ := BatchAt (Row_below hr hb) HXB.out
      cases he
      obtain ⟨yd, y, A9, c9, rfl, hy, t0, t1, t2, t3, t4, t5, l9, g9⟩ := Record.at n8 n hlt2
      have HM := Lib.hid (hit_max (tt := tt) (x := x) (lo := lo) hy (kL tt (L.drop (j + 1))) r'.Key)
      clear hy
      go_upto_region 14 with fail
      have h5 := below_al wr (.cells #[.int .i64 y.Time, .bool y.Keyed, .string y.Key, .bool y.Gone, .string y.Value, .slice A9 y.Heads.length c9] 53)
      have X17 := Box.new wr #[.int .i64 y.Time, .bool y.Keyed, .string y.Key, .bool y.Gone, .string y.Value, .slice A9 y.Heads.length c9] 53
      generalize wr.alloc (.cells #[.int .i64 y.Time, .bool y.Keyed, .string y.Key, .bool y.Gone, .string y.Value, .slice A9 y.Heads.length c9] 53) = W5 at h5 X17 ⊢
      have HX5 := Lib.hid (HX.out.later h5)
      have hb5 := below_tr hb h5
      replace s0 := later h5 s0
      replace s5 := later h5 s5
      have e1 := X17 1 _ rfl
      have e2 := X17 2 _ rfl
      have e3 := HX5.out 2 _ rfl
      clear t0 t1 t2 t3 t4 t5 s1 s2 s3 s4 s6
      generalize hcd : (decide (lo ≤ n) && eligF tt x n y && (y.Key.toList == r'.Key.toList)) = cd at HM
      have HCD := Lib.hid hcd
      go_cut [115] (fun s wx => s = .bool cd ∧ W5 = wx)
      case first =>
        have hlo := HLO.out
        subst hcd
        go_wp2
        all_goals (go_meet; exact ⟨by simp only [Value.bool.injEq]; grind [eligF], rfl⟩)
      obtain ⟨rfl, rfl⟩ := hcut
      clear hcd s0 s5 e1 e2 e3
      cases cd with
      | true =>
        have HE3 : Hid (true = R) := Lib.hid (by rw [← HE.out, HM.out]; rfl)
        go_wp2
        go_ret
        exact ⟨ret_bool (by rw [← HE3.out]), hb5⟩
      | false =>
        have HE3 : Hid (hitF (kB tt x (x.Records.drop (max (n + 1) lo)) (max (n + 1) lo) ++ kL tt (L.drop (j + 1))) r'.Key = R) := Lib.hid (by rw [← HE.out, HM.out]; rfl)
        go_wp2
        go_roundg (x.Records.length - n - 1)
        case rel => exact ⟨n + 1, by omega, by go_num, hb5, HX5, HE3⟩
        case measure => omega
end Go.Proofs.Ytiefpllmnmmdlaa.H
