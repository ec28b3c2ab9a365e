/-
sort.Slice over a row of Pair of the call's own, by the closure that View hands it. Conditions: none.
-/
import Derived.Test.YtiefpllmnmmdlaaHSrtL
import Derived.Test.YtiefpllmnmmdlaaHVw0
namespace Go.Proofs.Ytiefpllmnmmdlaa.H
open Go.Shelf Go.RowKit Go.Lib Go.Sort
set_option linter.unusedVariables false
set_option linter.unusedSimpArgs false
set_option maxRecDepth 100000
instance : Inhabited Pair := ⟨⟨⟨#[]⟩, ⟨#[]⟩⟩⟩
def ltP (a b : Pair) : Bool := ltK a.Key b.Key
theorem swo_ltP : SWO ltP := ⟨fun x => ltK_irr _, fun x y z h1 h2 => ltK_trans h1 h2, fun x y z h1 h2 => ltK_ntrans h1 h2⟩
noncomputable def srtT : TypeInfo := (Try.prog.info? 35).get (by kernel_rfl)
noncomputable def srtE : TypeInfo := (Try.prog.info? 64).get (by kernel_rfl)
theorem srtK (n : Nat) (h2 : 2 ≤ n) : Lib.swapperK n srtE 25 = 9 := by
  have a : srtE.hasPointers = true := by kernel_rfl
  have b : srtE.bytes = 32 := by kernel_rfl
  have c : (n == 0) = false := by simp; omega
  have d : (n == 1) = false := by simp; omega
  simp [Lib.swapperK, a, b, c, d]
theorem flatK_eq (L : List Pair) : (flatK encP 2 L.toArray).toList = L.flatMap encP := by
  apply List.ext_getElem?
  intro t
  by_cases ht : t < L.length * 2
  · have hs : t < (flatK encP 2 L.toArray).size := by simpa using ht
    rw [Array.getElem?_toList, Array.getElem?_eq_getElem hs, ← getElem!_pos _ t hs, get_flatK encP 2 L.toArray t (by simpa using ht)]
    have hi : t / 2 < L.length := by omega
    have hp : L[t / 2]? = some (L[t / 2]'hi) := List.getElem?_eq_getElem hi
    obtain ⟨h1, h2⟩ := flat_get hp
    have e1 : (L.toArray)[t / 2]! = L[t / 2]'hi := by rw [getElem!_pos _ _ (by simpa using hi)]; simp
    rw [e1]
    rcases Nat.mod_two_eq_zero_or_one t with h | h
    · have e2 : t / 2 * 2 = t := by omega
      rw [e2] at h1
      rw [h, h1]; rfl
    · have e2 : t / 2 * 2 + 1 = t := by omega
      rw [e2] at h2
      rw [h, h2]; rfl
  · rw [List.getElem?_eq_none (by simp; omega), List.getElem?_eq_none (by rw [flat_len]; omega)]
theorem flatK_get (L : List Pair) (t : Nat) : (flatK encP 2 L.toArray)[t]! = ((L.flatMap encP)[t]?).getD default := by
  rw [← flatK_eq, Array.getElem?_toList, Array.getElem!_eq_getD, Array.getD_eq_getD_getElem?]
theorem PR.holds {B : Nat} {w : World} {L : List Pair} {g c : Nat} (h : PR B w L (.slice (some ⟨g, 0, none⟩) L.length c)) : HoldsK encP 2 w g 0 L.toArray := by
  obtain ⟨cur, hh, hc, hm, hs, ht, hB⟩ := h.blk
  intro j hj
  have hj' : j < L.length * 2 := by simpa using hj
  refine ⟨?_, by simp [World.frozen?, hh]⟩
  obtain ⟨u, h2⟩ : ∃ u, (L.flatMap encP)[j]? = some u := ⟨_, List.getElem?_eq_getElem (by rw [flat_len]; exact hj')⟩
  have h1 := h2
  rw [← ht, List.getElem?_take, if_pos hj'] at h1
  rw [flatK_get, h2, Nat.zero_add]
  simp [World.cell?, hh, ← Array.getElem?_toList, h1]
theorem PR.sorted {B : Nat} {w : World} {L T : List Pair} {g c n : Nat} {os : Array Obj} (h : PR B w L (.slice (some ⟨g, 0, none⟩) L.length c)) (hl : T.length = L.length) :
    PR B (grow (putRowK encP 2 (Sort.ahead w n) g 0 T.toArray) os) T (.slice (some ⟨g, 0, none⟩) L.length c) ∧ w.grownBy (grow (putRowK encP 2 (Sort.ahead w n) g 0 T.toArray) os) (some g) := by
  obtain ⟨cur, hh, hc, hm, hs, ht, hB⟩ := h.blk
  have hg : g < w.heap.size := (Array.getElem?_eq_some_iff.1 hh).1
  have hsz : (putRowK encP 2 (Sort.ahead w n) g 0 T.toArray).heap.size = w.heap.size := by simp [putRowK, putRow, mapBlock, Sort.ahead]
  have hblk : (grow (putRowK encP 2 (Sort.ahead w n) g 0 T.toArray) os).heap[g]? = some (.cells (Sort.putCells id 0 (flatK encP 2 T.toArray) cur) 64 (0, 0)) := by
    rw [heap_grow_old _ _ (by rw [hsz]; exact hg)]
    simp [putRowK, putRow, mapBlock, Sort.ahead, Array.getElem?_modify, hh, onCells]
  refine ⟨⟨flat_len T, .inr ⟨g, c, _, by rw [hl], hB, hblk, by omega, hm, by simp [Sort.putCells, hs], ?_⟩⟩, ?_⟩
  · apply List.ext_getElem?
    intro t
    rw [List.getElem?_take]
    split
    · rename_i htl
      rw [Array.getElem?_toList]
      have hcur : t < cur.size := by omega
      simp only [Sort.putCells, Array.getElem?_mapIdx, Array.getElem?_eq_getElem hcur, Option.map_some, Nat.zero_le, true_and, Nat.zero_add, size_flatK, List.size_toArray, id, Nat.sub_zero]
      rw [if_pos htl, flatK_get, List.getElem?_eq_getElem (by rw [flat_len]; exact htl)]
      rfl
    · rw [List.getElem?_eq_none (by rw [flat_len]; omega)]
  · refine ⟨rfl, rfl, rfl, by rw [size_grow, hsz]; omega, fun k hk hne => ?_⟩
    rw [heap_grow_old _ _ (by rw [hsz]; exact hk)]
    have : g ≠ k := fun e => hne (by rw [e])
    simp [putRowK, putRow, mapBlock, Sort.ahead, Array.getElem?_modify, this]
set_option maxHeartbeats 2000000 in
/-- View's own closure. -/
theorem less_c (g c Bs size : Nat) (W : World) (G : Nat → ByteArray) (hs : W.cell? ⟨Bs, 0, none⟩ = some (.slice (some ⟨g, 0, none⟩) size c))
    (hc : ∀ t, t < size → W.cell? ⟨g, t * 2, none⟩ = some (.string (G t))) (i j : Nat) (hi : i < size) (hj : j < size) (_hsz : size < 4611686018427387904) :
    Calls Try.prog 33 #[.int .i64 i, .int .i64 j, .pointer (some ⟨Bs, 0, none⟩)] W fun e w' => e = .returned (.bool (ltK (G i) (G j))) ∧ ∃ q, w' = W.drewN q := by
  have ci := hc i hi
  have cj := hc j hj
  have hu := Try.underlying64
  have hu2 := Try.underlying35
  clear hc
  go_enter Try.func33, Try.ntmps33
  go_wp2
  go_quiet (fail)
  go_wp2
  go_ret
  exact ⟨rfl, nq, rfl⟩
/-- The sort, at a row of whatever length. -/
theorem sort_c {B : Nat} {w : World} {L : List Pair} {v : Value} {Bs : Nat} (h : PR B w L v) (hn : L.length ≤ 1000000) (hBs : w.cell? ⟨Bs, 0, none⟩ = some v) (hne : ∀ k, v.ownBlock = some k → Bs ≠ k) :
    Calls Try.prog 32 #[.iface 35 v, .func (.func 33) #[] #[.pointer (some ⟨Bs, 0, none⟩)]] w fun e w' =>
      e = .returned (.tuple #[]) ∧ ∃ T : List Pair, T.Perm L ∧ T.Pairwise (fun a b => ltK b.Key a.Key = false) ∧ PR B w' T v ∧ w.grownBy w' v.ownBlock := by
  have hB1 := World.block_lt_of_cell? w _ hBs
  by_cases h2 : 2 ≤ L.length
  case neg =>
    obtain ⟨A, c, rfl, _⟩ := h.form
    obtain ⟨f, hf⟩ : ∃ f, Try.prog.funcs.findIdx? (·.name == "internal/reflectlite" ++ ".Swapper$" ++ toString (Lib.swapperK L.length srtE 25)) = some f := by
      rcases (show L.length = 0 ∨ L.length = 1 by omega) with h0 | h0
      · rw [h0]; exact ⟨64, by kernel_rfl⟩
      · rw [h0]; exact ⟨65, by kernel_rfl⟩
    refine (Any.sort_Slice_tiny laysSrt 35 64 srtT srtE (by kernel_rfl) (by kernel_rfl) (by kernel_rfl) (by kernel_rfl) 25 (fun _ => by kernel_rfl) A L.length c (by omega) f hf _ _ _ w).mono ?_
    rintro e w' ⟨rfl, os, rfl⟩
    have hb : Below w.heap.size w (grow w os) := ⟨rfl, rfl, rfl, by rw [size_grow]; omega, fun k hk => heap_grow_old _ _ hk⟩
    refine ⟨rfl, L, List.Perm.refl _, ?_, h.below hb, rfl, rfl, rfl, by rw [size_grow]; omega, fun k hk _ => heap_grow_old _ _ hk⟩
    match L, h2 with
    | [], _ => exact List.Pairwise.nil
    | [a], _ => exact List.pairwise_singleton _ _
    | a :: b :: r, h2 => exact absurd (by simp) h2
  obtain ⟨p0, hp0⟩ : ∃ p, L[0]? = some p := ⟨_, List.getElem?_eq_getElem (by omega)⟩
  obtain ⟨g, c, rfl, _, _, _, _, _, _, _, hg⟩ := h.at hp0
  have hne' : Bs ≠ g := hne g rfl
  have hH := h.holds
  have hless : LessReadsK Try.prog 33 #[.pointer (some ⟨Bs, 0, none⟩)] encP 2 ltP g 0 L.toArray.size w := by
    intro m os dk hs i j hi hj
    have e : sortWorldK encP 2 w g 0 m dk os = putRowK encP 2 (grow (Sort.ahead w m) os) g 0 dk := by
      unfold sortWorldK; rw [putRowK_grow _ _ (Sort.ahead w m) _ g 0 _ hg]
    have hHg : HoldsK encP 2 (grow (Sort.ahead w m) os) g 0 L.toArray := holdsK_grow _ _ _ _ g 0 _ hg (holdsK_ahead _ _ _ _ _ _ _ hH)
    refine less_c g c Bs L.toArray.size _ (fun t => dk[t]!.Key) ?_ (fun t ht => ?_) i j hi hj (by simp; omega)
    · rw [e, cell?_putRowK_other _ _ _ g 0 dk _ (by exact hne'), cell?_grow _ _ _ (by exact hB1)]; simpa using hBs
    · rw [e]
      have := ((holdsK_putRowK _ _ _ g 0 L.toArray dk hHg hs).cell (i := t) (c := 0) (by omega) (by omega)).1
      simpa [encP] using this
  have hcall : Calls Try.prog 32 #[.iface 35 (.slice (some ⟨g, 0, none⟩) L.toArray.size c), .func (.func 33) #[] #[.pointer (some ⟨Bs, 0, none⟩)]] w fun e w' =>
      e = .returned (.tuple #[]) ∧ ∃ d' n os, PermIn 0 L.toArray.size L.toArray d' ∧ SortedIn ltP 0 L.toArray.size d' ∧ w' = grow (putRowK encP 2 (Sort.ahead w n) g 0 d') os := Any.sort_Slice_cells_sorted laysSrt 35 64 srtT srtE (by kernel_rfl) (by kernel_rfl) (by kernel_rfl) (by kernel_rfl) 25 (fun _ => by kernel_rfl) encP 2 (fun _ => rfl) (by kernel_rfl) (fun _ => by kernel_rfl)
    (fun x v hv => by simp [encP] at hv; rcases hv with rfl | rfl <;> rfl) ltP swo_ltP 33 _
    (enters_of Try.func33 (by kernel_rfl) rfl) g 0 c L.toArray (by simpa using h2) (by simp; omega) 72 (by rw [srtK _ (by simpa using h2)]; kernel_rfl) false
    (fun args W => run_callFunc_extern Try.func72 (by kernel_rfl) (by kernel_rfl) (by kernel_rfl) (e := Extern.ReflectliteSwapper.swap false) (by kernel_rfl) args W) w hless hH hg
  rw [show L.toArray.size = L.length from by simp] at hcall
  refine Calls.mono hcall ?_
  rintro e w' ⟨rfl, d', n, os, hp, hso, rfl⟩
  obtain ⟨hsz, _, hperm⟩ := hp
  have hsz' : d'.size = L.length := by simpa using hsz
  have e1 : d'.extract 0 L.length = d' := by rw [← hsz']; exact Array.extract_size
  rw [e1] at hperm
  have e2 : L.toArray.extract 0 L.length = L.toArray := by
    have : L.length = L.toArray.size := by simp
    rw [this]; exact Array.extract_size
  rw [e2] at hperm
  have hP := h.sorted (T := d'.toList) (n := n) (os := os) (by simpa using hsz')
  refine ⟨rfl, d'.toList, by simpa using hperm, ?_, by simpa using hP.1, by simpa [Value.ownBlock] using hP.2⟩
  rw [List.pairwise_iff_getElem]
  intro i j hi hj hij
  have hi' : i < d'.size := by simpa using hi
  have hj' : j < d'.size := by simpa using hj
  have := hso i j (Nat.zero_le _) hij (by simpa [hsz'] using hj')
  rw [getElem!_pos d' j hj', getElem!_pos d' i hi'] at this
  simpa [ltP] using this
end Go.Proofs.Ytiefpllmnmmdlaa.H
