/-
Slots as a map's keys; the program's apart. Conditions: each contract's own premises.
-/
import Derived.Test.YtenldgbabcjjkaaHW3
import Derived.DeepKeys5
import Derived.Maps.OwnSet
import Derived.Test.YtenldgbabcjjkaaHAll
namespace Go.Proofs.Ytenldgbabcjjkaa.H
open Go.RowKit Go.Maps
set_option linter.unusedVariables false
set_option linter.unusedSimpArgs false
set_option maxRecDepth 100000
theorem slot_law : WideMaps.KeyLaw Try.prog 79 := deep_law_gate (by kernel_rfl) (by rw [Nat.le_iff_lt_or_eq]; left; exact of_decide_eq_true (by kernel_rfl)) (of_decide_eq_true (by kernel_rfl)) (by kernel_rfl) (by kernel_rfl)
theorem law_slot : Keyed Try.prog 79 := Keyed.of_law slot_law
def slotKey (s : Slot) : Lit := .string (keyBytes [.string s.Topic.data.toList, .int .i64 s.Part])
def okSl (s : Slot) : Prop := s.Topic.size ≤ maxLen ∧ (Lit.int .i64 s.Part).wf = true
theorem keyOf_slot {s : Slot} (h : okSl s) : keyOf Try.prog 79 (.agg #[.string s.Topic, .int .i64 s.Part]) = some (slotKey s) := by
  obtain ⟨h1, h2⟩ := h
  have hk : Try.prog.keyType 79 = true := by kernel_rfl
  obtain ⟨d, hd⟩ : ∃ d, Try.prog.types.size = d + 1 := ⟨Try.prog.types.size - 1, by kernel_rfl⟩
  have hc : Try.prog.cellsOf 79 = 2 := by kernel_rfl
  have hc1 : Try.prog.cellsOf 9 = 1 := by kernel_rfl
  have hc2 : Try.prog.cellsOf 3 = 1 := by kernel_rfl
  have hu := Try.underlying79
  have hu1 := Try.underlying9
  have hu2 := Try.underlying3
  unfold keyOf
  rw [hu]
  simp only [hk, Bool.true_and]
  rw [if_pos (by simp [Value.formed, hu, hc])]
  rw [hd]
  have e1 : Try.prog.keyLits (d + 1) 9 [.string s.Topic] = some [.string s.Topic.data.toList] := by simp [Program.keyLits, hu1, h1]
  have e2 : Try.prog.keyLits (d + 1) 3 [.int .i64 s.Part] = some [.int .i64 s.Part] := by simp [Program.keyLits, hu2, h2]
  clear e1 e2
  simp [Program.keyLits, hu, hu1, hu2, h1, h2, Value.cells, hc, hc1, hc2, slotKey]
theorem slotKey_inj {a b : Slot} (ha : okSl a) (hb : okSl b) (h : slotKey a = slotKey b) : slEq a b = true := by
  have h1 := keyOf_slot ha
  have h2 := keyOf_slot hb
  rw [h] at h1
  have h3 := law_slot.inj h1 h2
  injection h3 with h3
  have h4 := congrArg Array.toList h3
  simp at h4
  simp [slEq, h4]
theorem slEq_key {a b : Slot} (h : slEq a b = true) : slotKey a = slotKey b := by
  simp only [slEq, Bool.and_eq_true, beq_iff_eq, decide_eq_true_eq, ByteArray.toList_eq] at h
  unfold slotKey
  rw [h.1, h.2]
theorem slEq_symm (a b : Slot) : slEq a b = slEq b a := by
  unfold slEq
  rw [BEq.comm]
  congr 1
  simp [eq_comm]
/-- The map tells which slots there are. -/
def HasS {H : Type} (D : DataW H) (acc : List Slot) : Prop := ∀ s, okSl s → D.atKey (slotKey s) (.lit (.bool false)) = .lit (.bool (inF acc s))
theorem HasS.nil {H : Type} : HasS (.map [] : DataW H) [] := fun s _ => rfl
theorem inF_app (acc : List Slot) (s q : Slot) : inF (acc ++ [s]) q = (inF acc q || slEq s q) := by simp [inF]
theorem HasS.put {H : Type} {D : DataW H} {acc : List Slot} (h : HasS D acc) (hD : IsMap D) {s : Slot} (hs : okSl s) : HasS (D.put (slotKey s) (.lit (.bool true))) (acc ++ [s]) := fun q hq => by
  rw [inF_app]
  by_cases he : slotKey q = slotKey s
  · rw [he, atKey_put_same hD (law_slot.key (keyOf_slot hs)), slotKey_inj hs hq he.symm, Bool.or_true]
  · rw [atKey_put_other he, h q hq]
    have : slEq s q = false := by
      cases hh : slEq s q with
      | false => rfl
      | true => exact absurd (slEq_key hh).symm he
    rw [this, Bool.or_false]
theorem zero_bool (w : World) : (zeroValue 4).run Try.prog w = .ok (.bool false) w := by kernel_rfl
theorem lookup_boolS {H : Type} (w : World) {ops : Array Oper} {rest : List Oper} {o : Oper} {a : Act} {Q : Exit → Act → World → Prop}
    (hg : o.guard = none) (m x : Operand) (hop : o.op = Op.lookup 86 m x false) (b n : Nat) (D : DataW H) {acc : List Slot} {s : Slot}
    (hm : a.eval m = .map (some b)) (hown : w.ownsMap Try.prog 79 (plainElem Try.prog 4) b n D) (hx : a.eval x = .agg #[.string s.Topic, .int .i64 s.Part]) (hs : okSl s) (hD : HasS D acc)
    (hK : wpList Try.prog ops Q rest (a.put o.dst (.bool (inF acc s))) w) : wpList Try.prog ops Q (o :: rest) a w := by
  refine wpList_plain hg fun K' hK' => ?_
  obtain ⟨v, ps, hrun, hv⟩ := hown.lookup law_slot Try.underlying86 (zero_bool w) (plainElem_bool Try.underlying4 false) (keyOf_slot hs)
  rw [hD s hs] at hv
  have hv2 : v = .bool (inF acc s) := by
    unfold plainElem at hv
    rw [Try.underlying4] at hv
    cases v <;> simp at hv
    rw [hv.1]
  subst hv2
  unfold Oper.wp
  simp [execOp, hop, hm, hx, hrun, Result.andThen]
  exact hK' _ _ hK
theorem update_boolS {H : Type} (w : World) {ops : Array Oper} {rest : List Oper} {o : Oper} {a : Act} {Q : Exit → Act → World → Prop}
    (hg : o.guard = none) (m x v : Operand) (hop : o.op = Op.mapUpdate 86 m x v) (b n : Nat) (D : DataW H) {acc : List Slot} {s : Slot}
    (hm : a.eval m = .map (some b)) (hown : w.ownsMap Try.prog 79 (plainElem Try.prog 4) b n D) (hn : n < maxLen) (hx : a.eval x = .agg #[.string s.Topic, .int .i64 s.Part]) (hv : a.eval v = .bool true) (hs : okSl s) (hD : HasS D acc)
    (hK : ∀ (w' : World) (D' : DataW H), w'.ownsMap Try.prog 79 (plainElem Try.prog 4) b (n + 1) D' → HasS D' (acc ++ [s]) → w.grownBy w' (some b) → wpList Try.prog ops Q rest (a.put o.dst undef) w') : wpList Try.prog ops Q (o :: rest) a w :=
  wpList_mapUpdate_own w hg m x v _ hop 79 4 law_slot Try.underlying86 _ b n D hm hown hn _ _ _ hx hv (keyOf_slot hs) _ [] (plainElem_bool Try.underlying4 true) (fun w' h1 h2 => hK w' _ h1 (hD.put hown.isMap hs) h2)
theorem ownsMap_belowS {H : Type} {w w' : World} {P : Program} {k : TypeId} {R : Value → Option (DataW H × List MemPlace)} {b n : Nat} {D : DataW H} (h : w.ownsMap P k R b n D) (hb : Below w.heap.size w w') : w'.ownsMap P k R b n D := by
  obtain ⟨es, clock, hq, r⟩ := h
  exact ⟨es, clock, (hb.block b (Array.getElem?_eq_some_iff.1 hq).1).trans hq, r⟩
/-- No slot twice. -/
def apF : List Slot → List Slot → Bool
  | _, [] => true
  | acc, s :: r => if inF acc s then false else apF (acc ++ [s]) r
theorem apF_cons (acc : List Slot) (s : Slot) (r : List Slot) : apF acc (s :: r) = if inF acc s then false else apF (acc ++ [s]) r := rfl
theorem drop_get {α : Type} {l : List α} {k : Nat} {x : α} (h : l[k]? = some x) : l.drop k = x :: l.drop (k + 1) := by
  obtain ⟨hk, rfl⟩ := List.getElem?_eq_some_iff.1 h
  exact List.drop_eq_getElem_cons hk
theorem rowSl {w : World} {A : Option Addr} {xs : List (List Slot)} (h : Row (Ki.slice 79 kSlot) w A xs) (i : Nat) (hi : i < xs.length) : ∃ ad l A1 c1, A = some ad ∧ xs[i]? = some l ∧ w.cell? (ad.add i) = some (.slice A1 l.length c1) ∧ l.length ≤ c1 ∧ Row kSlot w A1 l := by
  obtain ⟨ad, l, cs, rfl, hx, hk, hc⟩ := Row_get h i hi
  obtain ⟨A1, c1, rfl, hl, hr⟩ := hk
  refine ⟨ad, l, A1, c1, rfl, hx, ?_, hl, hr⟩
  have := hc 0 _ rfl
  simpa [show (Ki.slice 79 kSlot).sz = 1 from rfl] using this
set_option maxHeartbeats 4000000 in
theorem apart_c (w : World) (ls : List (List Slot)) {A : Option Addr} {c : Nat} (hl : ls.length ≤ c) (hg : Row (Ki.slice 79 kSlot) w A ls) (hok : ∀ l ∈ ls, l.length ≤ 1048576 ∧ ∀ s ∈ l, okSl s) (hln : ls.length ≤ 1048576) (hn : ls.flatten.length ≤ 1000000000) :
    Calls Try.prog 45 #[.slice A ls.length c] w fun e w' => e = .returned (.bool (apF [] ls.flatten)) ∧ Below w.heap.size w w' := by
  have HOK := Lib.hid hok
  clear hok
  generalize hR : apF [] ls.flatten = R
  have HR : Hid (apF [] (ls.drop 0).flatten = R) := Lib.hid (by rw [← hR]; rfl)
  have HN : Hid (0 + (ls.drop 0).flatten.length ≤ 1000000000) := Lib.hid (by simpa using hn)
  clear hR hn
  have hu2 := Try.underlying71
  have hu := Try.underlying79
  have hmm := @run_makeMap Try.prog
  go_enter Try.func45, Try.ntmps45
  go_wp2
  have hown0 := World.ownsMap_made (H := Unit) w Try.prog 79 (plainElem Try.prog 4)
  go_loopg [11] ls.length (fun g v11 wr => ∃ (k : Nat) (D : DataW Unit) (acc : List Slot), k + g = ls.length ∧ v11 = .int .i64 k ∧ wr.ownsMap Try.prog 79 (plainElem Try.prog 4) w.heap.size acc.length D ∧ HasS D acc ∧ Below w.heap.size w wr ∧ Hid (acc.length + (ls.drop k).flatten.length ≤ 1000000000) ∧ Hid (apF acc (ls.drop k).flatten = R))
  case atStart => exact ⟨0, _, [], by omega, rfl, hown0, HasS.nil, below_al _ _, HN, HR⟩
  case round =>
    clear HR HN hown0
    obtain ⟨k, D, acc, hk, rfl, hM, hD, hb, HN, HR⟩ := hrel
    by_cases hlt : k < ls.length
    case neg =>
      have HE : Hid (true = R) := Lib.hid (by rw [← HR.out, List.drop_eq_nil_of_le (by omega)]; rfl)
      go_wp2
      go_ret
      exact ⟨ret_bool (by rw [← HE.out]), hb⟩
    obtain ⟨ad, l, A1, c1, rfl, hx, p0w, hl1, hrw⟩ := rowSl hg k hlt
    have p0 := later hb p0w
    clear p0w
    have hll := (HOK.out l (List.mem_of_getElem? hx)).1
    have HOS := Lib.hid (HOK.out l (List.mem_of_getElem? hx)).2
    have HX := Lib.hid (drop_get hx)
    clear hx
    have HR2 : Hid (apF acc (l.drop 0 ++ (ls.drop (k + 1)).flatten) = R) := Lib.hid (by rw [← HR.out, HX.out]; rfl)
    have HN2 : Hid (acc.length + ((l.drop 0).length + (ls.drop (k + 1)).flatten.length) ≤ 1000000000) := Lib.hid (by have h := HN.out; rw [HX.out] at h; simpa using h)
    clear HR HN
    have hDH := Lib.hid hD
    clear hD
    go_upto_region 6 with fail
    clear p0
    go_loopg [17] l.length (fun g v17 wi => ∃ (j : Nat) (D : DataW Unit) (acc : List Slot), j + g = l.length ∧ v17 = .int .i64 j ∧ wi.ownsMap Try.prog 79 (plainElem Try.prog 4) w.heap.size acc.length D ∧ HasS D acc ∧ Below w.heap.size w wi ∧ Hid (acc.length + ((l.drop j).length + (ls.drop (k + 1)).flatten.length) ≤ 1000000000) ∧ Hid (apF acc (l.drop j ++ (ls.drop (k + 1)).flatten) = R))
    case atStart => exact ⟨0, D, acc, by omega, rfl, hM, hDH.out, hb, HN2, HR2⟩
    case round =>
      clear HR2 HN2 hDH hM hb D acc
      obtain ⟨j, D, acc, hj, rfl, hM, hD, hb, HN, HR⟩ := hrel
      have HD := Lib.hid hD
      clear hD
      by_cases hlt2 : j < l.length
      case neg =>
        have HR3 : Hid (apF acc (ls.drop (k + 1)).flatten = R) := Lib.hid (by rw [← HR.out, List.drop_eq_nil_of_le (show l.length ≤ j by omega)]; rfl)
        have HN3 : Hid (acc.length + (ls.drop (k + 1)).flatten.length ≤ 1000000000) := Lib.hid (by have h := HN.out; rw [List.drop_eq_nil_of_le (show l.length ≤ j by omega)] at h; simpa using h)
        go_wp2
        go_roundg (ls.length - k - 1)
        case rel => exact ⟨k + 1, D, acc, by omega, by go_num, hM, HD.out, hb, HN3, HR3⟩
        case measure => omega
      obtain ⟨ad1, s, rfl, hx, p0, p1⟩ := Slot.at (Row_below hrw hb) j hlt2
      have HS := Lib.hid (HOS.out s (List.mem_of_getElem? hx))
      have HX := Lib.hid (drop_get hx)
      clear hx
      have HR2 : Hid ((if inF acc s then false else apF (acc ++ [s]) (l.drop (j + 1) ++ (ls.drop (k + 1)).flatten)) = R) := Lib.hid (by rw [← apF_cons, ← HR.out, HX.out]; rfl)
      have hb1 := below_tr hb (below_al wr (.cells #[.string s.Topic, .int .i64 s.Part] 79))
      have hM1 := ownsMap_belowS hM (below_al wr (.cells #[.string s.Topic, .int .i64 s.Part] 79))
      have hac : acc.length + 1 ≤ 1000000000 := by have h := HN.out; rw [HX.out] at h; simp at h; omega
      generalize hin : inF acc s = bi at HR2
      have HI := Lib.hid hin
      clear hin
      cases bi with
      | true =>
        have HE : Hid (false = R) := Lib.hid (by rw [← HR2.out]; rfl)
        go_wp2_with (first | (at_lookup; refine lookup_boolS _ rfl _ _ rfl w.heap.size acc.length D rfl hM1 rfl HS.out HD.out ?_; rw [HI.out]) | go_in)
        go_ret
        exact ⟨ret_bool (by rw [← HE.out]), hb1⟩
      | false =>
        have HE : Hid (apF (acc ++ [s]) (l.drop (j + 1) ++ (ls.drop (k + 1)).flatten) = R) := Lib.hid (by rw [← HR2.out]; rfl)
        have HN2 : Hid ((acc ++ [s]).length + ((l.drop (j + 1)).length + (ls.drop (k + 1)).flatten.length) ≤ 1000000000) := Lib.hid (by have h := HN.out; rw [HX.out] at h; simp at h ⊢; omega)
        go_wp2_with (first | (at_lookup; refine lookup_boolS _ rfl _ _ rfl w.heap.size acc.length D rfl hM1 rfl HS.out HD.out ?_; rw [HI.out]) | (at_mapUpdate; refine update_boolS _ rfl _ _ _ rfl w.heap.size acc.length D rfl hM1 (by unfold maxLen; omega) rfl rfl HS.out HD.out ?_; intro wm D' hM2 hD2 hg2; have hb2 := hb1.grown hg2 hb1.size (fun k hk => by injection hk with hk; omega)) | go_in)
        go_roundg (gk - 1)
        case rel => exact ⟨j + 1, D', acc ++ [s], by omega, by go_num, by rw [List.length_append]; exact hM2, hD2, hb2, HN2, HE⟩
        case measure => omega
end Go.Proofs.Ytenldgbabcjjkaa.H
