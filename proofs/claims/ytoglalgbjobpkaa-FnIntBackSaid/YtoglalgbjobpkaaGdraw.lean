/-
The cursor of the draws: what a byte, a number below n, a pick come to. Conditions: the cursor stands in its bytes.
-/
import Derived.Test.YtoglalgbjobpkaaGlib
import Derived.Test.YtoglalgbjobpkaaFspecl1Once
import Derived.Test.YtoglalgbjobpkaaFspecl1PickInt
import Derived.Test.YtoglalgbjobpkaaFspecl1New
namespace Go.Proofs.Ytoglalgbjobpkaa.G
open Go.RowKit Go.Proofs.Ytoglalgbjobpkaa.F Go.Proofs.YtoglalgbjobpkaaW.PrintWords Go.Proofs.YtoglalgbjobpkaaW.PrintLast Go.Proofs.YtoglalgbjobpkaaW.PrintMore
set_option linter.unusedVariables false

theorem wrap_in (x : Int) : -9223372036854775808 ≤ wrap64 x ∧ wrap64 x ≤ 9223372036854775807 := by unfold wrap64; omega
theorem and255 (x : Int) : 0 ≤ Go.bits .and .i64 x 255 ∧ Go.bits .and .i64 x 255 ≤ 255 := by
  have h : Go.bits .and .i64 x 255 = IntKind.i64.wrap (((BitVec.ofInt 64 x &&& BitVec.ofInt 64 255).toNat : Nat) : Int) := rfl
  have e : (BitVec.ofInt 64 x &&& BitVec.ofInt 64 255).toNat = (BitVec.ofInt 64 x).toNat &&& 255 := by rw [BitVec.toNat_and]; rfl
  have hle : (BitVec.ofInt 64 x).toNat &&& 255 ≤ 255 := Nat.and_le_right
  rw [h, e, IntKind.wrap_i64]
  omega
/-- The cursor stands in its bytes. -/
def CurOk (b : List Int) (i : Int) : Prop := 0 ≤ i ∧ i ≤ b.length ∧ b.length ≤ 1048576
theorem byte_ok (b : List Int) (i h : Int) (c : CurOk b i) : ∃ x i' h', spec_l1Byte.f b i h = some (x, i', h') ∧ 0 ≤ x ∧ x ≤ 255 ∧ CurOk b i' := by
  obtain ⟨c0, c1, c2⟩ := c
  unfold spec_l1Byte.f
  by_cases hlt : i < b.length
  · rw [if_pos hlt, if_pos c0, wrapI (x := i + 1) (by omega) (by omega)]
    exact ⟨_, _, _, rfl, (and255 _).1, (and255 _).2, by omega, by omega, c2⟩
  · rw [if_neg hlt]
    exact ⟨_, _, _, rfl, (and255 _).1, (and255 _).2, c0, c1, c2⟩
theorem below_ok (b : List Int) (i h n : Int) (c : CurOk b i) (hn : 1 ≤ n) (hm : n ≤ 4611686018427387904) : ∃ x i' h', spec_l1Below.f b i h n = some (x, i', h') ∧ 0 ≤ x ∧ x < n ∧ CurOk b i' := by
  unfold spec_l1Below.f
  rw [if_neg (by omega)]
  by_cases h1 : n ≤ 256
  · obtain ⟨x, i', h', e, x0, x1, c'⟩ := byte_ok b i h c
    rw [if_pos h1, e]
    simp only [Option.bind_some]
    rw [if_neg (by omega), tmod_pos x0]
    exact ⟨_, _, _, rfl, Int.emod_nonneg _ (by omega), Int.emod_lt_of_pos _ (by omega), c'⟩
  · obtain ⟨x, i1, h1', e1, x0, x1, c1⟩ := byte_ok b i h c
    obtain ⟨y, i2, h2', e2, y0, y1, c2⟩ := byte_ok b i1 h1' c1
    obtain ⟨z, i3, h3', e3, z0, z1, c3⟩ := byte_ok b i2 h2' c2
    obtain ⟨u, i4, h4', e4, u0, u1, c4⟩ := byte_ok b i3 h3' c3
    rw [if_neg h1, e1]
    simp only [Option.bind_some]
    rw [e2]
    simp only [Option.bind_some]
    rw [e3]
    simp only [Option.bind_some]
    rw [e4]
    simp only [Option.bind_some]
    rw [if_neg (by omega), wrapI (x := x * 16777216) (by omega) (by omega), wrapI (x := y * 65536) (by omega) (by omega), wrapI (x := z * 256) (by omega) (by omega), wrapI (x := x * 16777216 + y * 65536) (by omega) (by omega), wrapI (x := x * 16777216 + y * 65536 + z * 256) (by omega) (by omega), wrapI (x := x * 16777216 + y * 65536 + z * 256 + u) (by omega) (by omega), tmod_pos (by omega)]
    exact ⟨_, _, _, rfl, Int.emod_nonneg _ (by omega), Int.emod_lt_of_pos _ (by omega), c4⟩
theorem once_ok (b : List Int) (i h n : Int) (c : CurOk b i) (hn : 1 ≤ n) (hm : n ≤ 4611686018427387904) : ∃ (x : Bool) (i' h' : Int), spec_l1Once.f b i h n = some (x, i', h') ∧ CurOk b i' := by
  obtain ⟨x, i', h', e, _, _, c'⟩ := below_ok b i h n c hn hm
  unfold spec_l1Once.f
  rw [e]
  exact ⟨_, _, _, rfl, c'⟩
theorem pickInt_ok (b : List Int) (i h : Int) (l : List Int) (c : CurOk b i) (hn : 1 ≤ l.length) (hm : l.length ≤ 4611686018427387904) : ∃ x i' h', spec_l1PickInt.f b i h l = some (x, i', h') ∧ x ∈ l ∧ CurOk b i' := by
  obtain ⟨x, i', h', e, x0, x1, c'⟩ := below_ok b i h l.length c (by omega) (by omega)
  unfold spec_l1PickInt.f
  rw [e]
  simp only [Option.bind_some]
  rw [if_pos x0, if_pos x1]
  refine ⟨_, _, _, rfl, ?_, c'⟩
  unfold rd
  exact getD_mem l x.toNat 0 (by omega)
theorem new_ok (b : List Int) (hb : b.length ≤ 1048576) : ∃ h, Ev (fun k => spec_l1New.f k b) (b, 0, h) := by
  have key : ∀ (d i : Nat) (h : Int), i + d = b.length → ∃ h', Ev (fun k => spec_l1New.l0 k b h i) (b, 0, h') := by
    intro d
    induction d with
    | zero =>
      intro i h hi
      exact ⟨h, Ev.step (f := fun _ => some (b, 0, h)) (fun k => by rw [spec_l1New.l0, if_neg (by omega)]) (Ev.now _)⟩
    | succ d ih =>
      intro i h hi
      by_cases h4 : (i : Int) < 4000
      · obtain ⟨h', p⟩ := ih (i + 1) (Go.bits .and .i64 (wrap64 ((wrap64 ((wrap64 (h * 131)) + (wrap64 (rd b i)))) + 7)) 1073741823) (by omega)
        refine ⟨h', Ev.step (fun k => ?_) p⟩
        rw [spec_l1New.l0, if_pos (by omega), if_pos h4, if_pos (by omega), wrapI (x := (i : Int) + 1) (by omega) (by omega)]; rfl
      · exact ⟨h, Ev.step (f := fun _ => some (b, 0, h)) (fun k => by rw [spec_l1New.l0, if_pos (by omega), if_neg h4]) (Ev.now _)⟩
  obtain ⟨h, p⟩ := key b.length 0 (wrap64 (71933 + (b.length : Int))) (by omega)
  exact ⟨h, Ev.congr (fun k => by unfold spec_l1New.f; rfl) p⟩
end Go.Proofs.Ytoglalgbjobpkaa.G
