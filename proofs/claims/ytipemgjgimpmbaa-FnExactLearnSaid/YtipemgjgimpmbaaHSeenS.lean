/-
Rows of Seen whose lists of Recent are told for reading, their blocks known: what the reference's Take hands back. Conditions: none.
-/
import Derived.Test.YtipemgjgimpmbaaHSeenAt
namespace Go.Proofs.Ytipemgjgimpmbaa.H
open Go.RowKit
set_option linter.unusedVariables false
set_option linter.unusedSimpArgs false
theorem add_block (a : Addr) (n : Nat) : (a.add n).block = a.block := by
  unfold Addr.add
  split <;> rfl
theorem cell_of_block {w w1 : World} {a : Addr} {u : Value} (h : w1.heap[a.block]? = w.heap[a.block]?) (hc : w.cell? a = some u) : w1.cell? a = some u := by rw [World.cell?_of_block h]; exact hc
def Ki.sliceS {α : Type} (e : Nat) (d : Ki α) (hfl : ∀ (w w1 : World) x cs, d.K w x cs → d.K w1 x cs) : Ki (List α) where
  sz := 1
  K := (Ki.slice e d).K
  T := fun w F xs cs => ∃ A c, cs = [.slice A xs.length c] ∧ xs.length ≤ c ∧ Row d w A xs ∧ (∀ ad, A = some ad → F = [ad.block] ∧ ad.block < w.heap.size) ∧ (A = none → F = [])
  len := (Ki.slice e d).len
  one := (Ki.slice e d).one
  mono := (Ki.slice e d).mono
  T_K := by
    rintro w F xs cs ⟨A, c, rfl, h1, h2, _⟩
    exact ⟨A, c, rfl, h1, h2⟩
  T_frame := by
    rintro w w1 F x cs hf ⟨A, c, rfl, h1, h2, h3, h4⟩
    refine ⟨A, c, rfl, h1, fun hp => ?_, fun ad e => ⟨(h3 ad e).1, ?_⟩, h4⟩
    · obtain ⟨a, rfl, hx⟩ := h2 hp
      obtain ⟨rfl, hlt⟩ := h3 a rfl
      refine ⟨a, rfl, fun i y hi => ?_⟩
      obtain ⟨cs, hk, hc⟩ := hx i y hi
      exact ⟨cs, hfl _ _ _ _ hk, fun j u hj => cell_of_block (by rw [add_block]; exact hf _ (List.mem_singleton.2 rfl)) (hc j u hj)⟩
    · obtain ⟨e2, hlt⟩ := h3 ad e
      have h := hf ad.block (by rw [e2]; exact List.mem_singleton.2 rfl)
      rw [Array.getElem?_eq_getElem hlt] at h
      exact (Array.getElem?_eq_some_iff.1 h).1
  T_lt := by
    rintro w F x cs ⟨A, c, rfl, h1, h2, h3, h4⟩ b hb
    cases A with
    | none => rw [h4 rfl] at hb; cases hb
    | some ad =>
      obtain ⟨e, hlt⟩ := h3 ad rfl
      rw [e] at hb
      rw [List.mem_singleton.1 hb]
      exact hlt
theorem recent_K (w w1 : World) (x : Recent) (cs : List Value) (h : kRecent.K w x cs) : kRecent.K w1 x cs := by
  obtain rfl := Recent.opn h
  exact Recent.mk_ _ _
def kSeenS : Ki Seen := Ki.iso (Ki.pair (Ki.int .i64) (Ki.pair (Ki.int .i64) (Ki.pair (Ki.int .i64) (Ki.sliceS 103 kRecent recent_K)))) (fun x : Seen => (x.Producer, x.Turn, x.Next, x.Recent))
theorem SeenS.mkT (w : World) (x : Seen) {A : Option Addr} {c : Nat} {F : List Nat} (h1 : x.Recent.length ≤ c) (h2 : Row kRecent w A x.Recent) (h3 : ∀ ad, A = some ad → F = [ad.block] ∧ ad.block < w.heap.size) (h4 : A = none → F = []) : kSeenS.T w F x [.int .i64 x.Producer, .int .i64 x.Turn, .int .i64 x.Next, .slice A x.Recent.length c] := by
  have h : kSeenS.T w _ x [.int .i64 x.Producer, .int .i64 x.Turn, .int .i64 x.Next, .slice A x.Recent.length c] := ⟨[.int .i64 x.Producer], [.int .i64 x.Turn, .int .i64 x.Next, .slice A x.Recent.length c], _, _, rfl, rfl, ⟨rfl, rfl⟩, ⟨[.int .i64 x.Turn], [.int .i64 x.Next, .slice A x.Recent.length c], _, _, rfl, rfl, ⟨rfl, rfl⟩, ⟨[.int .i64 x.Next], [.slice A x.Recent.length c], _, _, rfl, rfl, ⟨rfl, rfl⟩, ⟨A, c, rfl, h1, h2, h3, h4⟩⟩⟩⟩
  simpa using h
theorem SeenS.opnT {w : World} {F : List Nat} {x : Seen} {cs : List Value} (h : kSeenS.T w F x cs) : ∃ A c, cs = [.int .i64 x.Producer, .int .i64 x.Turn, .int .i64 x.Next, .slice A x.Recent.length c] ∧ x.Recent.length ≤ c ∧ Row kRecent w A x.Recent ∧ (∀ ad, A = some ad → F = [ad.block] ∧ ad.block < w.heap.size) ∧ (A = none → F = []) := by
  obtain ⟨_, _, _, _, rfl, rfl, ⟨rfl, rfl⟩, ⟨_, _, _, _, rfl, rfl, ⟨rfl, rfl⟩, ⟨_, _, _, _, rfl, rfl, ⟨rfl, rfl⟩, ⟨A, c, rfl, h1, h2, h3, h4⟩⟩⟩⟩ := h
  exact ⟨A, c, rfl, h1, h2, by simpa using h3, by simpa using h4⟩
/-- What a row of Recent of the call's own leads to: its own block alone. -/
theorem recent_F {w : World} {F : List Nat} {R : List Recent} {v : Value} (h : TS kRecent 103 w F R v) : F = v.ownBlock.toList := by
  obtain ⟨inner, Fs, ho, hl, hn, hp, hx⟩ := h
  have hz : Fs.flatten = [] := by
    rw [List.flatten_eq_nil_iff]
    intro q hq
    obtain ⟨i, hi, rfl⟩ := List.getElem_of_mem hq
    obtain ⟨Fi, h1, h2⟩ := hx i _ (List.getElem?_eq_getElem (by omega))
    rw [List.getElem?_eq_getElem hi] at h1
    cases h1
    exact (Recent.opnT h2).2
  rw [hz, List.append_nil] at hp
  cases hb : v.ownBlock with
  | none => rw [hb] at hp; exact List.perm_nil.1 hp
  | some k => rw [hb] at hp; exact List.perm_singleton.1 hp
theorem SeenX.toS {w : World} {F : List Nat} {x : Seen} {cs : List Value} (h : kSeenX.T w F x cs) : kSeenS.T w F x cs := by
  obtain ⟨v3, rfl, g3, _⟩ := SeenX.opnT h
  have hF := recent_F g3
  have hlt := TS_lt g3
  obtain ⟨A, c, rfl, h1, _, h2⟩ := TS_read g3
  refine SeenS.mkT w x h1 h2 (fun ad e => ?_) (fun e => ?_)
  · subst e
    refine ⟨hF, hlt _ (by rw [hF]; simp [Value.ownBlock])⟩
  · subst e
    exact hF
theorem TS.map {α : Type} {d d' : Ki α} {e : Nat} {w : World} {F : List Nat} {xs : List α} {v : Value} (h : TS d e w F xs v) (hsz : d'.sz = d.sz) (hm : ∀ w F x cs, d.T w F x cs → d'.T w F x cs) : TS d' e w F xs v := by
  obtain ⟨inner, Fs, h1, h2, h3, h4, h5⟩ := h
  refine ⟨inner, Fs, by rw [hsz]; exact h1, h2, h3, h4, fun i x hi => ?_⟩
  obtain ⟨Fi, h6, h7⟩ := h5 i x hi
  exact ⟨Fi, h6, by rw [hsz]; exact hm _ _ _ _ h7⟩
theorem OwnT.map {α : Type} {d d' : Ki α} {e B : Nat} {w : World} {xs : List α} {v : Value} (h : OwnT d e B w xs v) (hsz : d'.sz = d.sz) (hm : ∀ w F x cs, d.T w F x cs → d'.T w F x cs) : OwnT d' e B w xs v := by
  obtain ⟨F, h1, h2, h3⟩ := h
  exact ⟨F, TS.map h1 hsz hm, h2, h3⟩
theorem OwnT.toS {B : Nat} {w : World} {xs : List Seen} {v : Value} (h : OwnT kSeenX 101 B w xs v) : OwnT kSeenS 101 B w xs v := h.map rfl (fun _ _ _ _ h => SeenX.toS h)
theorem OwnT.rowS {B : Nat} {w : World} {xs : List Seen} {v : Value} (h : OwnT kSeenS 101 B w xs v) : ∃ A c, v = .slice A xs.length c ∧ xs.length ≤ c ∧ Row kSeen w A xs := by
  obtain ⟨F, h1, _⟩ := h
  obtain ⟨A, c, e, h2, _, h3⟩ := TS_read h1
  exact ⟨A, c, e, h2, h3⟩
section
variable {B : Nat} {W W1 : World} {L : List Seen} {i g c : Nat} {P T N : Int} {u3 v3 : Value} {R : List Recent}
/-- Closed for reading: the list of Recent may begin further on in its block. -/
theorem SeenAt.closeS {k o n cc m c0 : Nat} (h : SeenAt B W L i g c P T N (.slice (some ⟨k, o, none⟩) n cc) (.slice (some ⟨k, 0, none⟩) m c0) R) {R' : List Recent} (hn : R'.length = n) (hc : n ≤ cc) (hr : Row kRecent W (some ⟨k, o, none⟩) R') : OwnT kSeenS 101 B W (L.set i ⟨P, T, N, R'⟩) (.slice (some ⟨g, 0, none⟩) L.length c) := by
  subst hn
  obtain ⟨F, Fi, Fc, hF, h1, h2, h3, h4, h5, h6⟩ := h
  have hFc := recent_F h1
  have hk := TS_lt h1 k (by rw [hFc]; simp [Value.ownBlock])
  have hT : kSeenS.T W Fc ⟨P, T, N, R'⟩ [.int .i64 P, .int .i64 T, .int .i64 N, .slice (some ⟨k, o, none⟩) R'.length cc] := SeenS.mkT W ⟨P, T, N, R'⟩ hc hr (fun ad e => by cases e; exact ⟨hFc, hk⟩) (fun e => by cases e)
  obtain ⟨F', k1, k2, k3⟩ := Foc.close2 (hF.map (d' := kSeenS) rfl (fun _ _ _ _ h => SeenX.toS h)) hT h3 h4
  refine ⟨F', k1, k2, fun b hb => ?_⟩
  rcases k3 b hb with hh | hh
  · exact (h5 b hh).1
  · exact h6 b hh
end
theorem Foc.setx {α : Type} {d : Ki α} {e : Nat} {w : World} {F Fi : List Nat} {g n cap i : Nat} {xs : List α} {cs : List Value} (h : Foc d e w F Fi g n cap xs i cs) (y : α) : Foc d e w F Fi g n cap (xs.set i y) i cs := by
  obtain ⟨inner, Fs, ho, hl, hn, hp, hi, hF, hc, hx⟩ := h
  exact ⟨inner, Fs, ho, hl, by simp [hn], hp, hi, hF, hc, fun j x hj hjx => hx j x hj (by rwa [List.getElem?_set_ne (fun e => hj e.symm)] at hjx)⟩
theorem SeenAt.setx {B : Nat} {W : World} {L : List Seen} {i g c : Nat} {P T N : Int} {u3 v3 : Value} {R : List Recent} (h : SeenAt B W L i g c P T N u3 v3 R) (y : Seen) : SeenAt B W (L.set i y) i g c P T N u3 v3 R := by
  obtain ⟨F, Fi, Fc, hF, r⟩ := h
  refine ⟨F, Fi, Fc, ?_, r⟩
  rw [List.length_set]
  exact hF.setx y
theorem SeenAt.setP {B : Nat} {W : World} {L : List Seen} {i g c : Nat} {P T N : Int} {u3 v3 : Value} {R : List Recent} (h : SeenAt B W L i g c P T N u3 v3 R) (t : Int) : SeenAt B (W.setCell ⟨g, i * 4, none⟩ (.int .i64 t)) L i g c t T N u3 v3 R := h.set 0 (by decide) _
/-- Behind 'copy(out[i+1:], out[i:])', a row with one element more at its end: place i laid open. -/
theorem shift_foc {w : World} {B : Nat} {l : List Seen} {z : Seen} {g c i : Nat} (p : Int) (h : OwnR kSeenX 101 B w (l ++ [z]) (.slice (some ⟨g, 0, none⟩) (l.length + 1) c)) (hi : i < l.length) :
    ∃ (cur : Array Value) (cs : List Value), Blk w g cur 101 ∧ cur.size = c * 4 ∧ l.length + 1 ≤ c ∧ cs.length = (l.length - i) * 4 ∧ (∀ j u, cs[j]? = some u → w.cell? ((⟨g, i * 4, none⟩ : Addr).add j) = some u) ∧ (∀ u ∈ cs, u.oneCell' = true) ∧
      ∀ w1 : World, w1.heap = (w.setRow g (cur.toList.take ((i + 1) * 4) ++ cs ++ cur.toList.drop ((i + 1) * 4 + cs.length)).toArray).heap → ∃ q0 q1 q2 q3 F, Foc kSeenX 101 w1 F [] g (l.length + 1) c (insS l i p) i [q0, q1, q2, q3] ∧ (∀ b ∈ F, B ≤ b ∧ b < w1.heap.size) := by
  have hlen : (l ++ [z]).length = l.length + 1 := by simp
  obtain ⟨F, ⟨inner, Fs, hol, hFl, _, hp, hT⟩, hN, hB, hE⟩ := h
  rw [hlen] at hol hE hFl
  have hown := hE.row hol (by decide)
  have hil : inner.length = (l.length + 1) * 4 := hown.1
  rcases hown.2 with ⟨e1, _⟩ | ⟨g', cap, cur, e1, _, hG, hnc, hcm, hcs0, htk0⟩
  · cases e1
  simp only [Value.slice.injEq, Option.some.injEq, Addr.mk.injEq, and_true, true_and] at e1
  obtain ⟨rfl, rfl⟩ := e1
  have hcs : cur.size = c * 4 := hcs0
  have htk : cur.toList.take ((l.length + 1) * 4) = inner := htk0
  have hcl : cur.toList.length = c * 4 := by simpa using hcs
  have hG2 : Blk w g cur 101 := hG
  obtain ⟨inn, hinn⟩ : ∃ inn, inn = inner.take (l.length * 4) := ⟨_, rfl⟩
  have hinl : inn.length = l.length * 4 := by rw [hinn, List.length_take, hil]; omega
  have hti : cur.toList.take (l.length * 4) = inn := by rw [hinn, ← htk, List.take_take]; congr 1; omega
  have hone : ∀ u ∈ inner, u.oneCell' = true := inner_one hT (by rw [hlen]; exact hil) (by decide)
  have hdl : (inn.drop (i * 4)).length = (l.length - i) * 4 := by rw [List.length_drop, hinl]; omega
  refine ⟨cur, inn.drop (i * 4), hG2, hcs, hnc, hdl, blk_sub hG2 hti, fun u hu => hone u (List.mem_of_mem_take (hinn ▸ List.mem_of_mem_drop hu)), fun w1 hw1 => ?_⟩
  obtain ⟨cs0, hcs0'⟩ : ∃ cs0, cs0 = (cur.toList.take ((i + 1) * 4)).drop (i * 4) := ⟨_, rfl⟩
  have hc0l : cs0.length = 4 := by rw [hcs0', List.length_drop, List.length_take, hcl]; omega
  have hsplit : cur.toList.take ((i + 1) * 4) = inn.take (i * 4) ++ cs0 := by
    have h1 : (cur.toList.take ((i + 1) * 4)).take (i * 4) = inn.take (i * 4) := by rw [List.take_take, ← hti, List.take_take]; congr 1; omega
    rw [hcs0', ← h1, List.take_append_drop]
  have hC : cur.toList.take ((i + 1) * 4) ++ inn.drop (i * 4) ++ cur.toList.drop ((i + 1) * 4 + (inn.drop (i * 4)).length) = (inn.take (i * 4) ++ (cs0 ++ inn.drop (i * 4))) ++ cur.toList.drop ((l.length + 1) * 4) := by
    rw [hsplit, show (i + 1) * 4 + (inn.drop (i * 4)).length = (l.length + 1) * 4 by rw [hdl]; omega]
    simp
  rw [hC] at hw1
  have hl2 : (inn.take (i * 4) ++ (cs0 ++ inn.drop (i * 4))).length = (l.length + 1) * 4 := by simp only [List.length_append, List.length_take, hc0l, hdl, hinl]; omega
  generalize hN1 : inn.take (i * 4) ++ (cs0 ++ inn.drop (i * 4)) = inner1 at hw1 hl2
  have hB1 : w1.heap[g]? = some (.cells (inner1 ++ cur.toList.drop ((l.length + 1) * 4)).toArray 101 (0, 0)) := by rw [hw1]; exact setRow_heap w g cur _ _ _ hG
  have ho1 : w1.ownsRow 0 101 4 (.slice (some ⟨g, 0, none⟩) (l.length + 1) c) (l.length + 1) inner1 := by
    refine ⟨hl2, .inr ⟨g, c, _, rfl, Nat.zero_le _, hB1, hnc, hcm, ?_, ?_⟩⟩
    · simp only [List.size_toArray, List.length_append, List.length_drop, hcl, hl2]; omega
    · rw [show ∀ l : List Value, l.toArray.toList = l from fun l => rfl, ← hl2]
      exact List.take_left
  have hnd := hp.nodup_iff.1 hN
  have hnd' : (g :: Fs.flatten).Nodup := by simpa [Value.ownBlock] using hnd
  rw [List.nodup_cons] at hnd'
  have hsub : ∀ b ∈ (Fs.take l.length).flatten, b ∈ Fs.flatten := fun b hb => by
    obtain ⟨q, h1, h2⟩ := List.mem_flatten.1 hb
    exact List.mem_flatten.2 ⟨q, List.mem_of_mem_take h1, h2⟩
  have hnd1 : (Fs.take l.length).flatten.Nodup := by
    have : Fs.flatten = (Fs.take l.length).flatten ++ (Fs.drop l.length).flatten := by rw [← List.flatten_append, List.take_append_drop]
    rw [this] at hnd'
    exact (List.nodup_append.1 hnd'.2).1
  have hlt : ∀ b ∈ F, b < w.heap.size := TS_lt (d := kSeenX) (e := 101) (xs := l ++ [z]) (v := .slice (some ⟨g, 0, none⟩) (l.length + 1) c) ⟨inner, Fs, by rw [hlen]; exact hol, by rw [hlen]; exact hFl, Nat.le_refl _, hp, hT⟩
  have hsz : w1.heap.size = w.heap.size := by rw [hw1]; simp [World.setRow]
  have hfr : ∀ b, b ≠ g → w1.heap[b]? = w.heap[b]? := fun b hb => by rw [hw1]; exact setRow_other w g b _ hb
  obtain ⟨q0, q1, q2, q3, rfl⟩ : ∃ q0 q1 q2 q3, cs0 = [q0, q1, q2, q3] := by
    match cs0, hc0l with
    | [a, b, c, d], _ => exact ⟨a, b, c, d, rfl⟩
  have hfl : ((Fs.take l.length).take i ++ [] :: (Fs.take l.length).drop i).flatten = (Fs.take l.length).flatten := by
    rw [List.flatten_append, List.flatten_cons, List.nil_append, ← List.flatten_append, List.take_append_drop]
  have htf : ((Fs.take l.length).take i).length = i := by simp; omega
  have htx : (l.take i).length = i := by simp; omega
  refine ⟨q0, q1, q2, q3, g :: (Fs.take l.length).flatten, ⟨inner1, (Fs.take l.length).take i ++ [] :: (Fs.take l.length).drop i, ownsL_of (base := 0) ho1, by simp; omega, insS_len l i p (by omega), by rw [hfl], by rw [List.getElem?_append_right (by omega), htf]; simp, ?_, ?_, fun j x hji hj => ?_⟩, fun b hb => ?_⟩
  · rw [List.nodup_cons]
    exact ⟨fun hh => hnd'.1 (hsub g hh), hnd1⟩
  · rw [← hN1]
    have h := chunk_ins (n := l.length) (j := i) hinl hc0l (by omega : i ≤ l.length)
    rw [if_neg (by omega), if_pos rfl] at h
    exact h
  · have hch := chunk_ins (n := l.length) (j := j) hinl hc0l (by omega : i ≤ l.length)
    rw [hN1] at hch
    have key : ∀ q y, q < l.length → l[q]? = some y → ∃ Fi, (Fs.take l.length)[q]? = some Fi ∧ kSeenX.T w1 Fi y ((inn.drop (q * 4)).take 4) := fun q y hq hy => by
      obtain ⟨Fi, h1, h2⟩ := hT q y (by rw [List.getElem?_append_left hq]; exact hy)
      refine ⟨Fi, by rw [List.getElem?_take, if_pos hq]; exact h1, ?_⟩
      have h3 : (inn.drop (q * 4)).take 4 = (inner.drop (q * 4)).take 4 := by
        rw [hinn]
        apply List.ext_getElem?
        intro r
        rw [List.getElem?_take, List.getElem?_take]
        split
        · rw [List.getElem?_drop, List.getElem?_drop, List.getElem?_take, if_pos (by omega)]
        · rfl
      rw [h3]
      exact kSeenX.T_frame (fun b hb => hfr b (fun e => hnd'.1 (by rw [← e]; exact List.mem_flatten.2 ⟨Fi, List.mem_of_getElem? h1, hb⟩))) h2
    unfold insS at hj
    by_cases h1 : j < i
    · rw [List.getElem?_append_left (by omega), List.getElem?_take, if_pos h1] at hj
      obtain ⟨Fi, h2, h3⟩ := key j x (by omega) hj
      refine ⟨Fi, by rw [List.getElem?_append_left (by omega), List.getElem?_take, if_pos h1]; exact h2, ?_⟩
      show kSeenX.T w1 Fi x ((inner1.drop (j * 4)).take 4)
      rw [hch, if_pos h1]
      exact h3
    · rw [List.getElem?_append_right (by omega), htx] at hj
      obtain ⟨q, hq⟩ : ∃ q, j - i = q + 1 := ⟨j - i - 1, by omega⟩
      rw [hq, List.getElem?_cons_succ, List.getElem?_drop, show i + q = j - 1 by omega] at hj
      obtain ⟨Fi, h3, h4⟩ := key (j - 1) x (by have := (List.getElem?_eq_some_iff.1 hj).1; omega) hj
      refine ⟨Fi, by rw [List.getElem?_append_right (by omega), htf, hq, List.getElem?_cons_succ, List.getElem?_drop, show i + q = j - 1 by omega]; exact h3, ?_⟩
      show kSeenX.T w1 Fi x ((inner1.drop (j * 4)).take 4)
      rw [hch, if_neg h1, if_neg hji]
      exact h4
  · have hbF : b ∈ F := by
      rcases List.mem_cons.1 hb with rfl | hb
      · exact hp.mem_iff.2 (by simp [Value.ownBlock])
      · exact hp.mem_iff.2 (List.mem_append_right _ (hsub b hb))
    exact ⟨hB b hbF, by rw [hsz]; exact hlt b hbF⟩
end Go.Proofs.Ytipemgjgimpmbaa.H
