/-
The reference's View. Conditions: each contract's own premises.
-/
import Derived.Test.YtiefpllmnmmdlaaHVw0
import Derived.Test.YtiefpllmnmmdlaaHLog2
import Derived.IntWalk
namespace Go.Proofs.Ytiefpllmnmmdlaa.H
open Go.RowKit
set_option linter.unusedVariables false
set_option linter.unusedSimpArgs false
set_option maxRecDepth 100000
theorem Kp.appV {a b c : World} {row : Option Nat} {g : Nat} {t : TypeId} (h : Kp a b) (hg : b.grownBy c row) (hB : Blk a g #[] t) (hr : ∀ k, row = some k → k = g ∨ a.heap.size ≤ k) : Kp a c := fun p u hp => by
  have h1 := h p u hp
  have hlt := World.block_lt_of_cell? a _ hp
  refine hg.cell h1 (fun e => ?_)
  rcases hr _ e.symm with h2 | h2
  · unfold Blk at hB
    rw [← h2] at hB
    simp [World.cell?, hB] at hp
  · omega
theorem recs_le {b : Batch} (h : batchOk b = true) : b.Records.length ≤ 40 := by
  unfold batchOk bA bA0 inB at h
  simp only [Bool.and_eq_true, Bool.or_eq_true, decide_eq_true_eq, Bool.not_eq_true', decide_eq_false_iff_not, beq_iff_eq] at h
  omega
theorem BatchAtV {w : World} {A : Option Addr} {L : List Batch} (h : Row kBatch w A L) {i : Nat} {b : Batch} (hb : L[i]? = some b) : ∃ bd A6 c6, A = some bd ∧ w.cell? (bd.add (i * 7)) = some (.int .i64 b.Base) ∧ w.cell? ⟨(bd.add (i * 7)).block, (bd.add (i * 7)).off + 1, none⟩ = some (.int .i64 b.Epoch) ∧ w.cell? ⟨(bd.add (i * 7)).block, (bd.add (i * 7)).off + 2, none⟩ = some (.int .i64 b.Producer) ∧ w.cell? ⟨(bd.add (i * 7)).block, (bd.add (i * 7)).off + 3, none⟩ = some (.int .i64 b.Turn) ∧ w.cell? ⟨(bd.add (i * 7)).block, (bd.add (i * 7)).off + 4, none⟩ = some (.int .i64 b.Seq) ∧ w.cell? ⟨(bd.add (i * 7)).block, (bd.add (i * 7)).off + 5, none⟩ = some (.int .i64 b.Flags) ∧ w.cell? ⟨(bd.add (i * 7)).block, (bd.add (i * 7)).off + 6, none⟩ = some (.slice A6 b.Records.length c6) ∧ b.Records.length ≤ c6 ∧ Row kRecord w A6 b.Records := by
  obtain ⟨hi, rfl⟩ := List.getElem?_eq_some_iff.1 hb
  obtain ⟨bd, b', A6, c6, rfl, hbx, r0, r1, r2, r3, r4, r5, r6, l6, g6⟩ := Batch.at h i hi
  rw [List.getElem?_eq_getElem hi] at hbx
  cases hbx
  exact ⟨bd, A6, c6, rfl, r0, r1, r2, r3, r4, r5, r6, l6, g6⟩
/-- The reference's row so far, and all that was read. -/
structure VI (w W3 wr : World) (L : List Pair) (v : Value) : Prop where
  pr : PR (w.heap.size + 1) wr L v
  vs : ∀ k, v.ownBlock = some k → k = w.heap.size + 1 ∨ W3.heap.size ≤ k
  kp : Kp W3 wr
  bel : Below w.heap.size w wr
  sz : W3.heap.size ≤ wr.heap.size
section
variable {w W3 wr w' : World} {L L' : List Pair} {v v' : Value}
theorem VI.below (h : VI w W3 wr L v) (hb : Below wr.heap.size wr w') : VI w W3 w' L v :=
  ⟨h.pr.below hb, h.vs, h.kp.below hb, below_tr h.bel hb, Nat.le_trans h.sz hb.size⟩
theorem VI.grow (h : VI w W3 wr L v) (hp : PR (w.heap.size + 1) w' L' v') (hg : wr.grownBy w' v.ownBlock) (hat : v'.ownBlock = v.ownBlock ∨ v'.ownBlock = some wr.heap.size) (hB : Blk W3 (w.heap.size + 1) #[] 64) : VI w W3 w' L' v' := by
  refine ⟨hp, fun k hk => ?_, h.kp.appV hg hB h.vs, h.bel.grown hg h.bel.size (fun k hk => ?_), Nat.le_trans h.sz hg.size⟩
  · rcases hat with e | e
    · exact h.vs k (by rw [← e]; exact hk)
    · rw [e] at hk
      injection hk with hk
      have := h.sz
      omega
  · have := hB.lt
    rcases h.vs k hk with h1 | h1 <;> omega
end
theorem vStep_rem {L : List Pair} {r : Record} (h : hasK r.Key L = true) (hg : r.Gone = true) : vStep L r = L.take (atK r.Key L) ++ L.drop (atK r.Key L + 1) := by unfold vStep; rw [if_pos h, if_pos hg]
theorem vStep_set {L : List Pair} {r : Record} (h : hasK r.Key L = true) (hg : r.Gone = false) : vStep L r = L.set (atK r.Key L) ⟨r.Key, r.Value⟩ := by unfold vStep; rw [if_pos h, if_neg (by rw [hg]; simp)]
theorem vStep_non {L : List Pair} {r : Record} (h : hasK r.Key L = false) (hg : r.Gone = true) : vStep L r = L := by unfold vStep; rw [if_neg (by rw [h]; simp), if_pos hg]
theorem vStep_ins {L : List Pair} {r : Record} (h : hasK r.Key L = false) (hg : r.Gone = false) : vStep L r = L.take (atK r.Key L) ++ ⟨r.Key, r.Value⟩ :: L.drop (atK r.Key L) := by unfold vStep; rw [if_neg (by rw [h]; simp), if_neg (by rw [hg]; simp)]
theorem hasK_at {key : ByteArray} {L : List Pair} {p : Pair} {v : Bool} (hp : L[atK key L]? = some p) (hv : (p.Key.toList == key.toList) = v) : hasK key L = v := by unfold hasK; rw [hp]; exact hv
theorem hasK_end {key : ByteArray} {L : List Pair} (h : atK key L = L.length) : hasK key L = false := by unfold hasK; rw [h, List.getElem?_eq_none (Nat.le_refl _)]
set_option maxHeartbeats 16000000 in
theorem specView_m (w : World) (x : Log) {A : Option Addr} {c : Nat} (hc : x.Segments.length ≤ c) (hr : Row kSegment w A x.Segments) (hs : x.sm) (hw : x.wf) :
    Calls Try.prog 12 #[.agg #[.int .i64 x.Start, .int .i64 x.Next, .int .i64 x.Roll, .slice A x.Segments.length c]] w (MadeS kPair 64 (viewL x) w) := by
  have HS := Lib.hid hs
  have HW := Lib.hid hw
  clear hs hw
  have hu := Try.underlying64
  have hu2 := Try.underlying35
  have hu3 := Try.underlying28
  have hu4 := Try.underlying48
  have hu5 := Try.underlying42
  have hu8 := Try.underlying46
  have hu9 := Try.underlying53
  generalize hok : logOk x = ok
  have Hok := Lib.hid hok
  have B1 := (Blk.new w #[.int .i64 x.Start, .int .i64 x.Next, .int .i64 x.Roll, .slice A x.Segments.length c] 28).below (below_al _ (.cells #[] 64))
  have B2 := Blk.new (w.alloc (.cells #[.int .i64 x.Start, .int .i64 x.Next, .int .i64 x.Roll, .slice A x.Segments.length c] 28)) #[] 64
  have hP := PR.lit (w.alloc (.cells #[.int .i64 x.Start, .int .i64 x.Next, .int .i64 x.Roll, .slice A x.Segments.length c] 28))
  have hb := below_tr (below_al w (.cells #[.int .i64 x.Start, .int .i64 x.Next, .int .i64 x.Roll, .slice A x.Segments.length c] 28)) (below_al _ (.cells #[] 64))
  rw [size_al] at B2 hP
  go_enter Try.func12, Try.ntmps12
  go_upto_region 2 with fail
  generalize (w.alloc (.cells #[.int .i64 x.Start, .int .i64 x.Next, .int .i64 x.Roll, .slice A x.Segments.length c] 28)).alloc (.cells #[] 64) = W1 at B1 B2 hb hP ⊢
  have a0 := B1.cell 0 _ rfl
  have a1 := B1.cell 1 _ rfl
  have a2 := B1.cell 2 _ rfl
  have a3 := B1.cell 3 _ rfl
  have HR1 := Lib.hid (Row_below hr hb)
  have HB1 := Lib.hid B1
  have HB2 := Lib.hid B2
  have HP := Lib.hid hP
  have Hh := Lib.hid hb
  clear B1 B2 hP hb
  cases ok with
  | false =>
    have HL : Hid (viewL x = []) := Lib.hid (by unfold viewL; rw [hok]; rfl)
    clear hok
    go_upto_region 3 with (go_at_call 30; refine (specLogOk_c _ x hc HR1.out HS.out HW.out).mono ?_; rintro e W2 ⟨rfl, hb2⟩; rw [Hok.out])
    go_wp2
    go_ret
    obtain ⟨F, h1, h2⟩ := (OwnR.mono (B' := w.heap.size) (HP.out.below hb2).own (by omega)).fresh
    rw [HL.out]
    exact ⟨_, F, rfl, h1, h2, below_tr Hh.out hb2⟩
  | true =>
    have HL : Hid (viewL x = viewF (vL x (allB x))) := Lib.hid (by unfold viewL; rw [hok]; rfl)
    have hall := logOk_all hok
    have hll := hall.1
    have HFO := Lib.hid (fun b hb => fOk_of (hall.2 b hb) : ∀ b ∈ allB x, fOk b)
    have HRL := Lib.hid (fun b hb => recs_le (hall.2 b hb) : ∀ b ∈ allB x, b.Records.length ≤ 40)
    clear hok hall
    have hln : x.Segments.length ≤ 1048576 := HS.out.1
    go_upto_region 4 with (go_at_call 30; refine (specLogOk_c _ x hc HR1.out HS.out HW.out).mono ?_; rintro e W2 ⟨rfl, hb2⟩; rw [Hok.out])
    have C1 := Lib.hid (HB1.out.below hb2)
    have C2 := Lib.hid (HB2.out.below hb2)
    have c0 := C1.out.cell 0 _ rfl
    have c1 := C1.out.cell 1 _ rfl
    have c2 := C1.out.cell 2 _ rfl
    have c3 := C1.out.cell 3 _ rfl
    have HR2 := Lib.hid (Row_below HR1.out hb2)
    have HP2 := Lib.hid (HP.out.below hb2)
    have Hh2 := Lib.hid (below_tr Hh.out hb2)
    clear a0 a1 a2 a3 hb2 HB1 HB2 HR1 HP Hh
    go_upto_region 5 with (go_at_call 19; refine (l3All_c _ x hc HR2.out hln (by omega)).mono ?_; rintro e W3 ⟨Ab, cb, rfl, hcb, hrb, hb3⟩)
    have HD1 := Lib.hid (C1.out.below hb3)
    have HD2 := Lib.hid (C2.out.below hb3)
    have HRB := Lib.hid hrb
    have hg2 := HD2.out.lt
    have HVI : Hid (VI w W3 W3 [] (.slice (some ⟨w.heap.size + 1, 0, none⟩) 0 0)) := Lib.hid ⟨HP2.out.below hb3, fun k hk => by simp [Value.ownBlock] at hk; omega, Kp.refl _, below_tr Hh2.out hb3, Nat.le_refl _⟩
    generalize hL : allB x = L at HL HFO HRL hll hcb HRB
    have HLL := Lib.hid hL
    clear hL C1 C2 c0 c1 c2 c3 HR2 HP2 Hh2 hb3 hrb
    go_upto_region 6 with fail
    go_loopg [3, 5] L.length (fun g v3 v5 wr => ∃ (i : Nat) (Ao : Option Addr) (co : Nat), i + g = L.length ∧ v5 = .int .i64 i ∧ v3 = .slice Ao (viewF (vL x (L.take i))).length co ∧ Hid (VI w W3 wr (viewF (vL x (L.take i))) (.slice Ao (viewF (vL x (L.take i))).length co)))
    case atStart => exact ⟨0, _, 0, by omega, rfl, rfl, HVI⟩
    case round =>
      clear HVI
      obtain ⟨i, Ao, co, hi, rfl, rfl, HV⟩ := hrel
      by_cases hit : i < L.length
      case neg =>
        obtain rfl : i = L.length := by omega
        rw [List.take_length] at HV ⊢
        go_wp2
        go_ret
        obtain ⟨F, h1, h2⟩ := (OwnR.mono (B' := w.heap.size) HV.out.pr.own (by omega)).fresh
        rw [HL.out]
        exact ⟨_, F, rfl, h1, h2, HV.out.bel⟩
      obtain ⟨b, hb⟩ : ∃ b, L[i]? = some b := ⟨_, List.getElem?_eq_getElem hit⟩
      have hbm := List.mem_of_getElem? hb
      obtain ⟨⟨_, _⟩, ⟨fb1, fb2⟩, ⟨ff1, ff2⟩, _, _⟩ := HFO.out b hbm
      have hrl := HRL.out b hbm
      have HLB := Lib.hid hb
      have HVS := Lib.hid (vL_take (x := x) hb)
      have hvl := vL_len x (L.take i) (fun q hq => HRL.out q (List.mem_of_mem_take hq))
      rw [List.length_take] at hvl
      have hvl : (vL x (L.take i)).length ≤ 16000 := by omega
      clear hb hbm
      generalize vL x (L.take i) = V at HV HVS hvl ⊢
      go_upto_region 9 with fail
      go_loopg [3, 6] b.Records.length (fun g v3 v6 wr => ∃ (k : Nat) (Ao : Option Addr) (co : Nat), k + g = b.Records.length ∧ v6 = .int .i64 k ∧ v3 = .slice Ao (viewF (V ++ (if b.Flags < 4 then vB x b (b.Records.take k) 0 else []))).length co ∧ Hid (VI w W3 wr (viewF (V ++ (if b.Flags < 4 then vB x b (b.Records.take k) 0 else []))) (.slice Ao (viewF (V ++ (if b.Flags < 4 then vB x b (b.Records.take k) 0 else []))).length co)))
      case atStart =>
        have h0 : V ++ (if b.Flags < 4 then vB x b (b.Records.take 0) 0 else []) = V := by simp [vB]
        exact ⟨0, Ao, co, by omega, rfl, by rw [h0], by rw [h0]; exact HV⟩
      case round =>
        clear HV
        obtain ⟨k, Ao, co, hk, rfl, rfl, HV⟩ := hrel
        obtain ⟨bd, A6, c6, eAb, r0, r1, r2, r3, r4, r5, r6, l6, g6⟩ := BatchAtV (Row_kp HRB.out HV.out.kp) HLB.out
        subst eAb
        by_cases hkt : k < b.Records.length
        case neg =>
          obtain rfl : k = b.Records.length := by omega
          have HVE : Hid (V ++ (if b.Flags < 4 then vB x b b.Records 0 else []) = vL x (L.take (i + 1))) := Lib.hid (by rw [HVS.out]; rfl)
          rw [List.take_length, HVE.out] at HV ⊢
          go_wp2
          go_roundg (L.length - (i + 1))
          case rel => exact ⟨i + 1, Ao, co, by omega, by go_num, rfl, HV⟩
          case measure => omega
        obtain ⟨ad, r, A5, c5, eA6, hrk, p0, p1, p2, p3, p4, p5, l5, g5⟩ := Record.at g6 k hkt
        subst eA6
        have HRK := Lib.hid hrk
        clear hrk
        have hw1 : IntKind.i64.wrap (b.Base + (k : Int)) = b.Base + (k : Int) := IntWalk.i64_in _ (by omega)
        have BR := Blk.new wr #[.int .i64 r.Time, .bool r.Keyed, .string r.Key, .bool r.Gone, .string r.Value, .slice A5 r.Heads.length c5] 53
        have hbr := below_al wr (.cells #[.int .i64 r.Time, .bool r.Keyed, .string r.Key, .bool r.Gone, .string r.Value, .slice A5 r.Heads.length c5] 53)
        obtain ⟨GR, hGR⟩ : ∃ n, n = wr.heap.size := ⟨_, rfl⟩
        have HV2 := Lib.hid (HV.out.below hbr)
        go_upto_region 12 with fail
        generalize wr.alloc (.cells #[.int .i64 r.Time, .bool r.Keyed, .string r.Key, .bool r.Gone, .string r.Value, .slice A5 r.Heads.length c5] 53) = W5 at BR hbr HV2 ⊢
        rw [← hGR] at BR ⊢
        have hGl : ∀ (v : Value) (q : Nat), (∀ k, v.ownBlock = some k → k < GR) → v.ownBlock = some q → q ≠ GR := fun v q h hq => by have := h q hq; omega
        replace r0 := later hbr r0
        replace r5 := later hbr r5
        clear r1 r2 r3 r4 r6 p0 p1 p2 p3 p4 p5 hGl
        have HGR := Lib.hid hGR
        clear hGR
        have c0 : W5.cell? ⟨w.heap.size, 0, none⟩ = some (.int .i64 x.Start) := later hbr (HV.out.kp _ _ (HD1.out.cell 0 _ rfl))
        have q1 : W5.cell? ⟨GR, 1, none⟩ = some (.bool r.Keyed) := BR.cell 1 _ rfl
        have hvb := vB_len x b (b.Records.take k) 0
        rw [List.length_take] at hvb
        have hvl2 : (V ++ (if b.Flags < 4 then vB x b (b.Records.take k) 0 else [])).length ≤ 16040 := by
          rw [List.length_append]
          split
          · omega
          · simp; omega
        have hvf := viewF_len _ _ (rfl : (V ++ (if b.Flags < 4 then vB x b (b.Records.take k) 0 else [])).length = _)
        have HNX : Hid (∀ (hf : b.Flags < 4), V ++ (if b.Flags < 4 then vB x b (b.Records.take (k + 1)) 0 else []) = (V ++ (if b.Flags < 4 then vB x b (b.Records.take k) 0 else [])) ++ (if vElig x b k r then [r] else [])) := Lib.hid (fun hf => by rw [if_pos hf, if_pos hf, vB_take HRK.out, List.append_assoc])
        have HNF : Hid (∀ (hf : ¬ b.Flags < 4), V ++ (if b.Flags < 4 then vB x b (b.Records.take (k + 1)) 0 else []) = V ++ (if b.Flags < 4 then vB x b (b.Records.take k) 0 else [])) := Lib.hid (fun hf => by rw [if_neg hf, if_neg hf])
        generalize V ++ (if b.Flags < 4 then vB x b (b.Records.take k) 0 else []) = Vk at HV HV2 hvl2 hvf HNX HNF ⊢
        by_cases h1 : b.Base + (k : Int) < x.Start
        case pos =>
          have hd1 : decide (b.Base + (k : Int) < x.Start) = true := by simpa using h1
          have HNE : Hid (V ++ (if b.Flags < 4 then vB x b (b.Records.take (k + 1)) 0 else []) = Vk) := Lib.hid (by
            by_cases hf : b.Flags < 4
            · rw [HNX.out hf]; unfold vElig; rw [show decide (x.Start ≤ b.Base + (k : Int)) = false by simpa using h1]; simp
            · exact HNF.out hf)
          clear h1
          go_quiet (fail)
          go_wp2
          go_roundg (b.Records.length - (k + 1))
          case rel => exact ⟨k + 1, Ao, co, by omega, by go_num, by rw [HNE.out], by rw [HNE.out]; exact Lib.hid (HV2.out.below (below_dn (Below.refl _ _) _))⟩
          case measure => omega
        have hd1 : decide (b.Base + (k : Int) < x.Start) = false := by simpa using h1
        have he1 : decide (x.Start ≤ b.Base + (k : Int)) = true := by simp; omega
        have HE1 := Lib.hid he1
        clear h1 he1
        by_cases h2 : b.Flags < 4
        case neg =>
          have hd2 : decide (4 ≤ b.Flags) = true := by simp; omega
          have HNE := Lib.hid (HNF.out h2)
          clear h2
          go_quiet (fail)
          go_wp2
          go_roundg (b.Records.length - (k + 1))
          case rel => exact ⟨k + 1, Ao, co, by omega, by go_num, by rw [HNE.out], by rw [HNE.out]; exact Lib.hid (HV2.out.below (below_dn (Below.refl _ _) _))⟩
          case measure => omega
        have hd2 : decide (4 ≤ b.Flags) = false := by simp; omega
        have HNX2 := Lib.hid (HNX.out h2)
        clear h2 HNX HNF
        generalize hky : r.Keyed = ky at BR q1
        have HKY := Lib.hid hky
        clear hky
        cases ky with
        | false =>
          have HNE : Hid (V ++ (if b.Flags < 4 then vB x b (b.Records.take (k + 1)) 0 else []) = Vk) := Lib.hid (by rw [HNX2.out]; unfold vElig; rw [HKY.out]; simp)
          go_quiet (fail)
          go_wp2
          go_roundg (b.Records.length - (k + 1))
          case rel => exact ⟨k + 1, Ao, co, by omega, by go_num, by rw [HNE.out], by rw [HNE.out]; exact Lib.hid (HV2.out.below (below_dn (Below.refl _ _) _))⟩
          case measure => omega
        | true =>
          have HNE : Hid (viewF (V ++ (if b.Flags < 4 then vB x b (b.Records.take (k + 1)) 0 else [])) = vStep (viewF Vk) r) := Lib.hid (by rw [HNX2.out]; unfold vElig; rw [HKY.out, HE1.out]; simp only [Bool.and_self, if_true]; exact viewF_snoc Vk r)
          clear HNX2
          go_quiet (fail)
          go_upto_region 14 with fail
          have hdn := below_dn (Below.refl W5.heap.size W5) nq
          have HV6 := Lib.hid (HV2.out.below hdn)
          have BR6 := Lib.hid (BR.below hdn)
          have hGl : ∀ q, (Value.slice Ao (viewF Vk).length co).ownBlock = some q → q < GR := fun q hq => by rw [HGR.out]; exact (HV.out.pr.lt q hq).2
          have HGL := Lib.hid hGl
          clear hdn hGl BR HV HV2 r0 r5 c0 q1 hbr
          have hsrt := (viewF_srt Vk).1
          generalize viewF Vk = Ls at HV6 HGL hvf HNE hsrt ⊢
          have HSR := Lib.hid hsrt
          have hvf2 : Ls.length ≤ 16040 := by omega
          clear hsrt hvf
          generalize W5.drewN nq = W6 at HV6 BR6 ⊢
          go_loopg [8] Ls.length (fun g v8 wr3 => ∃ (j : Nat), j + g = Ls.length ∧ v8 = .int .i64 j ∧ j ≤ atK r.Key Ls ∧ Hid (VI w W3 wr3 Ls (.slice Ao Ls.length co)) ∧ Hid (Blk wr3 GR #[.int .i64 r.Time, .bool true, .string r.Key, .bool r.Gone, .string r.Value, .slice A5 r.Heads.length c5] 53))
          case atStart => exact ⟨0, by omega, rfl, Nat.zero_le _, HV6, BR6⟩
          case round =>
            clear HV6 BR6
            obtain ⟨j, hj, rfl, hja, HV, HBR⟩ := hrel
            have q2 : wr.cell? ⟨GR, 2, none⟩ = some (.string r.Key) := HBR.out.cell 2 _ rfl
            have q3 : wr.cell? ⟨GR, 3, none⟩ = some (.bool r.Gone) := HBR.out.cell 3 _ rfl
            have q4 : wr.cell? ⟨GR, 4, none⟩ = some (.string r.Value) := HBR.out.cell 4 _ rfl
            have hjle : j ≤ Ls.length := by omega
            by_cases hjl : j < Ls.length
            case' pos =>
              obtain ⟨p, hp⟩ : ∃ p, Ls[j]? = some p := ⟨_, List.getElem?_eq_getElem hjl⟩
              obtain ⟨g, cg, e9, hcg, hcm, s0, s1, f0, f1, hBg, hgl⟩ := HV.out.pr.at hp
              simp only [Value.slice.injEq, true_and] at e9
              obtain ⟨rfl, rfl⟩ := e9
              have HPJ := Lib.hid hp
              have hgj := atK_get (key := r.Key) hp
              have HGJ := Lib.hid hgj
              have hd1 : decide ((j : Int) < (Ls.length : Int)) = true := by simpa using hjl
              have hd2 : decide (j < Ls.length) = true := by simpa using hjl
              clear hp hgj
              cases hlb : Op.bytesLess p.Key.toList r.Key.toList
              case' true =>
                have hj2 : j < atK r.Key Ls := by
                  by_cases e : j = atK r.Key Ls
                  · have := HGJ.out.2 e
                    unfold ltK at this
                    rw [hlb] at this
                    cases this
                  · omega
                go_upto_region 14 with fail
                go_quiet (fail)
                go_wp2
                go_roundg (Ls.length - (j + 1))
                case rel => exact ⟨j + 1, by omega, by go_num, by omega, Lib.hid (HV.out.below (below_dn (Below.refl _ _) _)), Lib.hid (HBR.out.below (below_dn (Below.refl _ _) _))⟩
                case measure => omega
              case' false =>
                have hj2 : j = atK r.Key Ls := by
                  by_cases e : j < atK r.Key Ls
                  · have := HGJ.out.1 e
                    unfold ltK at this
                    rw [hlb] at this
                    cases this
                  · omega
                have HJ2 := Lib.hid hj2
                clear hj2 hja HGJ
                go_upto_region 14 with fail
                go_quiet (fail)
                have hdn := below_dn (Below.refl wr.heap.size wr) nq
                have HVq := Lib.hid (HV.out.below hdn)
                have HBq := Lib.hid (HBR.out.below hdn)
                clear hdn q2 q3 q4 s0 s1 f0 f1 hgl HV HBR
                go_upto_region 16 with fail
                generalize wr.drewN nq = Wq at HVq HBq ⊢
                have q2 : Wq.cell? ⟨GR, 2, none⟩ = some (.string r.Key) := HBq.out.cell 2 _ rfl
                obtain ⟨g', cg', e9, _, _, s0, _, _, _, _, _⟩ := HVq.out.pr.at HPJ.out
                simp only [Value.slice.injEq, true_and, Option.some.injEq, Addr.mk.injEq, and_true] at e9
                obtain ⟨e9a, e9b⟩ := e9
                subst e9a e9b
                cases heq : (p.Key.toList == r.Key.toList)
                case' true =>
                  have HHAS := Lib.hid (hasK_at (v := true) (by rw [← HJ2.out]; exact HPJ.out) heq)
                  go_quiet (fail)
                  have hdn := below_dn (Below.refl Wq.heap.size Wq) nq
                  have HV7 := Lib.hid (HVq.out.below hdn)
                  have HB7 := Lib.hid (HBq.out.below hdn)
                  have HGg := Lib.hid (HGL.out _ rfl)
                  clear hdn q2 s0 HVq HBq
                  go_upto_region 20 with fail
                  generalize Wq.drewN nq = W7 at HV7 HB7 ⊢
                  have q3 : W7.cell? ⟨GR, 3, none⟩ = some (.bool r.Gone) := HB7.out.cell 3 _ rfl
                  have q4 : W7.cell? ⟨GR, 4, none⟩ = some (.string r.Value) := HB7.out.cell 4 _ rfl
                  generalize hgo : r.Gone = go at q3 HB7 ⊢
                  have HGO := Lib.hid hgo
                  clear hgo
                  cases go with
                  | true =>
                    have HNE2 := Lib.hid (HNE.out.trans (vStep_rem HHAS.out HGO.out))
                    go_upto_region 21 with fail
                    have HVd := Lib.hid (HV7.out.below (Below.refl _ _).drew)
                    have hj1 : (j : Int) + 1 ≤ (Ls.length : Int) := by omega
                    have hj0 : 0 ≤ (j : Int) + 1 := by omega
                    have hjw : IntKind.i64.wrap ((j : Int) + 1) = (j : Int) + 1 := IntWalk.i64_in _ (by omega)
                    have hjn : ((j : Int) + 1).toNat = j + 1 := by omega
                    have hln : (vStep Ls r).length = Ls.length - 1 := by rw [vStep_rem HHAS.out HGO.out, ← HJ2.out]; simp; omega
                    have HLN := Lib.hid hln
                    clear hln q3 q4 heq hlb
                    rcases (show (j + 1 < co ∧ ¬ co = j + 1) ∨ (j + 1 = co ∧ Ls.length = j + 1) by omega) with ⟨hd, hd0⟩ | ⟨rfl, hd⟩
                    · obtain ⟨wd, hrun, hPd, hgd⟩ := PR.rem HVd.out.pr hjl 35 ⟨_, (j + 1) * 2, none⟩ (co - (j + 1)) (fun _ => rfl)
                      have HRUN := Lib.hid hrun
                      have HPd := Lib.hid hPd
                      have HGd := Lib.hid hgd
                      clear hrun hPd hgd
                      go_region_held_law (fun w' => True) (trivial) (first | (refine step_bi rfl _ _ _ _ rfl _ _ rfl rfl HRUN.out ?_))
                      have HVn : Hid (VI w W3 wd (viewF (V ++ if b.Flags < 4 then vB x b (b.Records.take (k + 1)) 0 else [])) (.slice (some ⟨g, 0, none⟩) (Ls.length - 1) co)) := Lib.hid (by rw [HNE2.out, ← HJ2.out]; exact HVd.out.grow HPd.out HGd.out (.inl rfl) HD2.out)
                      have HLN2 : Hid ((viewF (V ++ if b.Flags < 4 then vB x b (b.Records.take (k + 1)) 0 else [])).length = Ls.length - 1) := Lib.hid (by rw [HNE.out, HLN.out])
                      clear hj1 hj0 hjw hjn
                      go_wp2
                      go_roundg (b.Records.length - (k + 1))
                      case rel => exact ⟨k + 1, _, co, by omega, by go_num, by rw [HLN2.out], by rw [HLN2.out]; exact HVn⟩
                      case measure => omega
                    · obtain ⟨wd, hrun, hPd, hgd⟩ := PR.rem HVd.out.pr hjl 35 ⟨_, 0, none⟩ 0 (fun h => by omega)
                      have e0 : Ls.length - (j + 1) = 0 := by omega
                      rw [e0] at hrun
                      have HRUN := Lib.hid hrun
                      have HPd := Lib.hid hPd
                      have HGd := Lib.hid hgd
                      have HE0 := Lib.hid e0
                      clear hrun hPd hgd e0
                      go_region_held_law (fun w' => True) (trivial) (first | (refine step_bi rfl _ _ _ _ rfl _ _ rfl rfl HRUN.out ?_))
                      have HVn : Hid (VI w W3 wd (viewF (V ++ if b.Flags < 4 then vB x b (b.Records.take (k + 1)) 0 else [])) (.slice (some ⟨g, 0, none⟩) (Ls.length - 1) (j + 1))) := Lib.hid (by rw [HNE2.out, ← HJ2.out]; exact HVd.out.grow HPd.out HGd.out (.inl rfl) HD2.out)
                      have HLN2 : Hid ((viewF (V ++ if b.Flags < 4 then vB x b (b.Records.take (k + 1)) 0 else [])).length = Ls.length - 1) := Lib.hid (by rw [HNE.out, HLN.out])
                      clear hj1 hj0 hjw hjn
                      go_wp2
                      go_roundg (b.Records.length - (k + 1))
                      case rel => exact ⟨k + 1, some ⟨g, 0, none⟩, (j + 1), by omega, by go_num, by rw [HLN2.out, hd]; rfl, by rw [HLN2.out]; exact HVn⟩
                      case measure => omega
                  | false =>
                    have HNE2 := Lib.hid (HNE.out.trans (vStep_set HHAS.out HGO.out))
                    obtain ⟨_, _, e9, _, _, s0, s1, f0, f1, _, hgl⟩ := HV7.out.pr.at HPJ.out
                    simp only [Value.slice.injEq, true_and, Option.some.injEq, Addr.mk.injEq, and_true] at e9
                    obtain ⟨rfl, rfl⟩ := e9
                    have hke := ba_inj (eq_of_beq heq)
                    have hps := HV7.out.pr.set1 HPJ.out r.Value
                    rw [hke, HJ2.out] at hps
                    have hgr := set1_grown (i := j) HV7.out.pr (.string r.Value)
                    rw [HJ2.out] at hgr
                    have HVn : Hid (VI w W3 (W7.setCell ⟨_, j * 2 + 1, none⟩ (.string r.Value)) (viewF (V ++ if b.Flags < 4 then vB x b (b.Records.take (k + 1)) 0 else [])) _) := Lib.hid (by rw [HNE2.out, HJ2.out]; exact HV7.out.grow (by simpa using hps) hgr (.inl rfl) HD2.out)
                    have HLN : Hid ((viewF (V ++ if b.Flags < 4 then vB x b (b.Records.take (k + 1)) 0 else [])).length = Ls.length) := Lib.hid (by rw [HNE2.out, List.length_set])
                    clear hke hps hgr
                    go_wp2
                    go_roundg (b.Records.length - (k + 1))
                    case rel => exact ⟨k + 1, _, co, by omega, by go_num, by rw [HLN.out], by rw [HLN.out]; exact HVn⟩
                    case measure => omega
                case' false =>
                  have HHAS := Lib.hid (hasK_at (v := false) (by rw [← HJ2.out]; exact HPJ.out) heq)
                  go_quiet (fail)
                  have hdn := below_dn (Below.refl Wq.heap.size Wq) nq
                  have HV7 := Lib.hid (HVq.out.below hdn)
                  have HB7 := Lib.hid (HBq.out.below hdn)
                  clear hdn q2 s0 HVq HBq hd1 hd2 hjl hlb heq HPJ hcg hcm hBg
                  go_upto_region 20 with fail
                  generalize Wq.drewN nq = W7 at HV7 HB7 ⊢
                  generalize hao : (some (⟨_, 0, none⟩ : Addr)) = Ao at HV7 HGL ⊢
                  clear hao
            case' neg =>
              have HJ2 := Lib.hid (show j = atK r.Key Ls by have := atK_le r.Key Ls; omega)
              have HHAS := Lib.hid (hasK_end (L := Ls) (key := r.Key) (by have := HJ2.out; omega))
              have hd1 : decide ((j : Int) < (Ls.length : Int)) = false := by simpa using hjl
              have hd2 : decide (j < Ls.length) = false := by simpa using hjl
              clear hja
              go_upto_region 14 with fail
              go_quiet (fail)
              have hdn := below_dn (Below.refl wr.heap.size wr) nq
              have HVq := Lib.hid (HV.out.below hdn)
              have HBq := Lib.hid (HBR.out.below hdn)
              clear hdn q2 q3 q4 HV HBR
              go_upto_region 16 with fail
              generalize wr.drewN nq = Wq at HVq HBq ⊢
              go_quiet (fail)
              have hdn := below_dn (Below.refl Wq.heap.size Wq) nq
              have HV7 := Lib.hid (HVq.out.below hdn)
              have HB7 := Lib.hid (HBq.out.below hdn)
              clear hdn HVq HBq hd1 hd2 hjl
              go_upto_region 20 with fail
              generalize Wq.drewN nq = W7 at HV7 HB7 ⊢
            all_goals
              have q2 : W7.cell? ⟨GR, 2, none⟩ = some (.string r.Key) := HB7.out.cell 2 _ rfl
              have q3 : W7.cell? ⟨GR, 3, none⟩ = some (.bool r.Gone) := HB7.out.cell 3 _ rfl
              have q4 : W7.cell? ⟨GR, 4, none⟩ = some (.string r.Value) := HB7.out.cell 4 _ rfl
              generalize hgo : r.Gone = go at q3 HB7 ⊢
              have HGO := Lib.hid hgo
              clear hgo
              cases go with
              | true =>
                have HNE2 := Lib.hid (HNE.out.trans (vStep_non HHAS.out HGO.out))
                go_wp2
                go_roundg (b.Records.length - (k + 1))
                case rel => exact ⟨k + 1, Ao, co, by omega, by go_num, by rw [HNE2.out], by rw [HNE2.out]; exact HV7⟩
                case measure => omega
              | false =>
                have HNE2 := Lib.hid (HNE.out.trans (vStep_ins HHAS.out HGO.out))
                have hal := below_al W7 (.cells #[.string ⟨#[]⟩, .string ⟨#[]⟩] 64)
                have HVa := Lib.hid (HV7.out.below hal)
                have hs7 : GR < W7.heap.size := HB7.out.lt
                go_upto_region 18 with (at_builtin; refine list_pair rfl _ _ _ rfl rfl ⟨⟨#[]⟩, ⟨#[]⟩⟩ rfl HVa.out.pr _ _ rfl (Box.new W7 _ _) (by have := HVa.out.bel.size; have := HD2.out.lt; have := HVa.out.sz; omega) (by omega) ?_; intro A8 c8 W8 hP8 hg8 hat8)
                have HV8 := Lib.hid (HVa.out.grow hP8 hg8 hat8 HD2.out)
                obtain ⟨pz, hpz⟩ : ∃ q, (Ls ++ [(⟨⟨#[]⟩, ⟨#[]⟩⟩ : Pair)])[0]? = some q := ⟨_, List.getElem?_eq_getElem (by simp)⟩
                obtain ⟨g8, cg8, e9, hc8, hm8, _, _, _, _, _, _⟩ := hP8.at hpz
                simp only [List.length_append, List.length_singleton, Value.slice.injEq, true_and] at e9
                obtain ⟨rfl, rfl⟩ := e9
                rw [List.length_append, List.length_singleton] at hc8
                have hgr8 : GR ≠ g8 := fun e => by
                  subst e
                  rcases hat8 with h | h
                  · have := HGL.out GR (h ▸ rfl)
                    omega
                  · simp [Value.ownBlock] at h
                    omega
                have HBa := HB7.out.below hal
                have HB8 : Hid (Blk W8 GR #[.int .i64 r.Time, .bool true, .string r.Key, .bool false, .string r.Value, .slice A5 r.Heads.length c5] 53) := Lib.hid (HBa.grown hg8 (fun e => by have := HGL.out GR e; omega))
                clear hpz hat8 hg8 hal HBa HVa q2 q3 q4 HGL
                have HVd := Lib.hid (HV8.out.below (Below.refl _ _).drew)
                have HBd := Lib.hid (HB8.out.below (Below.refl _ _).drew)
                have hj1 : (j : Int) + 1 ≤ (Ls.length : Int) + 1 := by omega
                have hj0 : 0 ≤ (j : Int) + 1 := by omega
                have hjw : IntKind.i64.wrap ((j : Int) + 1) = (j : Int) + 1 := IntWalk.i64_in _ (by omega)
                have hjn : ((j : Int) + 1).toNat = j + 1 := by omega
                rcases (show (j + 1 < c8 ∧ ¬ c8 = j + 1) ∨ (j + 1 = c8 ∧ j = Ls.length) by omega) with ⟨hd, hd0⟩ | ⟨rfl, rfl⟩
                · obtain ⟨wd, pj, hrun, hPd, hgd⟩ := PR.shift HVd.out.pr hjle 3 ⟨g8, (j + 1) * 2, none⟩ (c8 - (j + 1)) (c8 - j) (fun _ => rfl)
                  have HRUN := Lib.hid hrun
                  have HPd := Lib.hid hPd
                  have HGd := Lib.hid hgd
                  clear hrun hPd hgd
                  go_region_held_law (fun w' => True) (trivial) (first | (refine step_cp rfl _ _ _ _ rfl _ _ rfl rfl HRUN.out ?_))
                  go_upto_region 19 with fail
                  have hl1 : (Ls.take j ++ pj :: Ls.drop j).length = Ls.length + 1 := by simp; omega
                  have hpj : (Ls.take j ++ pj :: Ls.drop j)[j]? = some pj := by rw [List.getElem?_append_right (by rw [List.length_take]; omega), List.length_take, Nat.min_eq_left hjle, Nat.sub_self]; rfl
                  have hVe : VI w W3 wd (Ls.take j ++ pj :: Ls.drop j) (.slice (some ⟨g8, 0, none⟩) (Ls.take j ++ pj :: Ls.drop j).length c8) := by rw [hl1]; exact HVd.out.grow HPd.out HGd.out (.inl rfl) HD2.out
                  obtain ⟨_, _, e9, _, _, s0, s1, f0, f1, _, hgl⟩ := hVe.pr.at hpj
                  simp only [Value.slice.injEq, true_and, Option.some.injEq, Addr.mk.injEq, and_true] at e9
                  obtain ⟨rfl, rfl⟩ := e9
                  have HBe := HBd.out.grown HGd.out (fun e => hgr8 (by injection e with e; exact e.symm))
                  have q2 : wd.cell? ⟨GR, 2, none⟩ = some (.string r.Key) := HBe.cell 2 _ rfl
                  have q4 : wd.cell? ⟨GR, 4, none⟩ = some (.string r.Value) := HBe.cell 4 _ rfl
                  have hps := hVe.pr.set2 hpj r.Key r.Value
                  have hgs := set2_grown (i := j) hVe.pr (.string r.Key) (.string r.Value)
                  have hse : (Ls.take j ++ pj :: Ls.drop j).set j ⟨r.Key, r.Value⟩ = Ls.take j ++ ⟨r.Key, r.Value⟩ :: Ls.drop j := by
                    rw [List.set_append_right _ _ (by rw [List.length_take]; omega), List.length_take, Nat.min_eq_left hjle, Nat.sub_self, List.set_cons_zero]
                  have hVf := hVe.grow hps hgs (.inl rfl) HD2.out
                  rw [hse, hl1] at hVf
                  have HVf := Lib.hid hVf
                  have HLN2 : Hid ((viewF (V ++ if b.Flags < 4 then vB x b (b.Records.take (k + 1)) 0 else [])).length = Ls.length + 1) := Lib.hid (by rw [HNE2.out]; simp; have := HJ2.out; omega)
                  have HVn : Hid (VI w W3 ((wd.setCell ⟨_, j * 2, none⟩ (.string r.Key)).setCell ⟨_, j * 2 + 1, none⟩ (.string r.Value)) (viewF (V ++ if b.Flags < 4 then vB x b (b.Records.take (k + 1)) 0 else [])) _) := Lib.hid (by rw [HNE2.out, ← HJ2.out]; exact HVf.out)
                  clear hVe hps hgs hse hVf HBe hpj hl1 hj1 hj0 hjw hjn
                  go_wp2
                  go_roundg (b.Records.length - (k + 1))
                  case rel => exact ⟨k + 1, _, c8, by omega, by go_num, by rw [HLN2.out], by rw [HLN2.out]; exact HVn⟩
                  case measure => omega
                · obtain ⟨wd, pj, hrun, hPd, hgd⟩ := PR.shift HVd.out.pr (Nat.le_refl _) 3 ⟨g8, 0, none⟩ 0 1 (fun h => by omega)
                  have e0 : Ls.length - Ls.length = 0 := by omega
                  have e1 : Ls.length + 1 - Ls.length = 1 := by omega
                  rw [e0, e1] at hrun
                  have HRUN := Lib.hid hrun
                  have HPd := Lib.hid hPd
                  have HGd := Lib.hid hgd
                  clear hrun hPd hgd e0 e1
                  go_region_held_law (fun w' => True) (trivial) (first | (refine step_cp rfl _ _ _ _ rfl _ _ rfl rfl HRUN.out ?_))
                  go_upto_region 19 with fail
                  have hl1 : (Ls.take Ls.length ++ pj :: Ls.drop Ls.length).length = Ls.length + 1 := by simp
                  have hpj : (Ls.take Ls.length ++ pj :: Ls.drop Ls.length)[Ls.length]? = some pj := by rw [List.getElem?_append_right (by rw [List.length_take]; omega), List.length_take, Nat.min_eq_left (Nat.le_refl _), Nat.sub_self]; rfl
                  have hVe : VI w W3 wd (Ls.take Ls.length ++ pj :: Ls.drop Ls.length) (.slice (some ⟨g8, 0, none⟩) (Ls.take Ls.length ++ pj :: Ls.drop Ls.length).length (Ls.length + 1)) := by rw [hl1]; exact HVd.out.grow HPd.out HGd.out (.inl rfl) HD2.out
                  obtain ⟨_, _, e9, _, _, s0, s1, f0, f1, _, hgl⟩ := hVe.pr.at hpj
                  simp only [Value.slice.injEq, true_and, Option.some.injEq, Addr.mk.injEq, and_true] at e9
                  obtain ⟨rfl, rfl⟩ := e9
                  have HBe := HBd.out.grown HGd.out (fun e => hgr8 (by injection e with e; exact e.symm))
                  have q2 : wd.cell? ⟨GR, 2, none⟩ = some (.string r.Key) := HBe.cell 2 _ rfl
                  have q4 : wd.cell? ⟨GR, 4, none⟩ = some (.string r.Value) := HBe.cell 4 _ rfl
                  have hps := hVe.pr.set2 hpj r.Key r.Value
                  have hgs := set2_grown (i := Ls.length) hVe.pr (.string r.Key) (.string r.Value)
                  have hse : (Ls.take Ls.length ++ pj :: Ls.drop Ls.length).set Ls.length ⟨r.Key, r.Value⟩ = Ls.take Ls.length ++ ⟨r.Key, r.Value⟩ :: Ls.drop Ls.length := by
                    rw [List.set_append_right _ _ (by rw [List.length_take]; omega), List.length_take, Nat.min_eq_left (Nat.le_refl _), Nat.sub_self, List.set_cons_zero]
                  have hVf := hVe.grow hps hgs (.inl rfl) HD2.out
                  rw [hse, hl1] at hVf
                  have HVf := Lib.hid hVf
                  have HLN2 : Hid ((viewF (V ++ if b.Flags < 4 then vB x b (b.Records.take (k + 1)) 0 else [])).length = Ls.length + 1) := Lib.hid (by rw [HNE2.out]; simp; have := HJ2.out; omega)
                  have HVn : Hid (VI w W3 ((wd.setCell ⟨_, Ls.length * 2, none⟩ (.string r.Key)).setCell ⟨_, Ls.length * 2 + 1, none⟩ (.string r.Value)) (viewF (V ++ if b.Flags < 4 then vB x b (b.Records.take (k + 1)) 0 else [])) _) := Lib.hid (by rw [HNE2.out, ← HJ2.out]; exact HVf.out)
                  clear hVe hps hgs hse hVf HBe hpj hl1 hj1 hj0 hjw hjn
                  go_wp2
                  go_roundg (b.Records.length - (k + 1))
                  case rel => exact ⟨k + 1, _, (Ls.length + 1), by omega, by go_num, by rw [HLN2.out], by rw [HLN2.out]; exact HVn⟩
                  case measure => omega
end Go.Proofs.Ytiefpllmnmmdlaa.H
