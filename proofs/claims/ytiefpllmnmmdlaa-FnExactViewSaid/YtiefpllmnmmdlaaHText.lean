/-
The laws' own markText: a text told by a number. Conditions: each contract's own premises.
-/
import Derived.Test.YtiefpllmnmmdlaaHRg
import Derived.Test.YtiefpllmnmmdlaaProg
namespace Go.Proofs.Ytiefpllmnmmdlaa.H
open Go.RowKit
set_option linter.unusedVariables false
set_option linter.unusedSimpArgs false
set_option maxRecDepth 100000
def dig (n : Nat) : UInt8 := UInt8.ofNat (48 + n % 10)
theorem dig_val (n : Nat) : ((dig n).toNat : Int) = 48 + (n : Int) % 10 := by
  unfold dig
  rw [UInt8.toNat_ofNat']
  omega
def mdig (n : Nat) (acc : List UInt8) : List UInt8 := if h : n = 0 then acc else mdig (n / 10) (dig n :: acc)
termination_by n
decreasing_by omega
theorem mdig_zero (acc : List UInt8) : mdig 0 acc = acc := by rw [mdig]; simp
theorem mdig_succ {n : Nat} (h : n ≠ 0) (acc : List UInt8) : mdig n acc = mdig (n / 10) (dig n :: acc) := by rw [mdig]; simp [h]
def mtext (k : Int) : ByteArray := if k ≤ 0 then ⟨#[109, 48]⟩ else ⟨(109 :: mdig k.toNat []).toArray⟩
set_option maxHeartbeats 2000000 in
theorem markText_c (k : Int) (w : World) (h1 : k ≤ 1000000000000000) : Calls Try.prog 35 #[.int .i64 k] w fun e w' => e = .returned (.string (mtext k)) ∧ Below w.heap.size w w' := by
  by_cases h0 : k ≤ 0
  · have HM : Hid (mtext k = ⟨#[109, 48]⟩) := Lib.hid (by rw [mtext, if_pos h0])
    go_enter Try.func35, Try.ntmps35
    go_wp2
    go_ret
    exact ⟨by rw [HM.out]; rfl, Below.refl _ _⟩
  obtain ⟨n, rfl⟩ : ∃ n : Nat, k = n := ⟨k.toNat, by omega⟩
  have HM : Hid (mtext (n : Int) = ⟨(109 :: mdig n []).toArray⟩) := Lib.hid (by rw [mtext, if_neg h0]; simp)
  generalize hD : mdig n [] = D at HM
  have HD := Lib.hid hD
  clear hD
  have hn15 : n ≤ 1000000000000000 := by omega
  go_enter Try.func35, Try.ntmps35
  go_wp2
  go_loopg [0, 3] n (fun g v0 v3 wr => ∃ (m : Nat) (s : ByteArray), g = m ∧ v0 = .int .i64 m ∧ v3 = .string s ∧ s.size + m ≤ n ∧ Below w.heap.size w wr ∧ Hid (mdig m s.data.toList = D))
  case atStart => exact ⟨n, ⟨#[]⟩, rfl, rfl, rfl, by simp [ByteArray.size], Below.refl _ _, HD⟩
  case round =>
    clear HD h0 h1
    obtain ⟨m, s, hgm, rfl, rfl, hm, hb, HD⟩ := hrel
    have HG := Lib.hid hgm
    clear hgm
    by_cases hz : 0 < m
    · have hcv : (convert 97 9 (.slice (some ⟨wr.heap.size, 0, none⟩) 1 1)).run Try.prog (wr.alloc (.cells #[.int .u8 (48 + (m : Int) % 10)] 5)) = .ok (.string ⟨[dig m].toArray⟩) (wr.alloc (.cells #[.int .u8 (48 + (m : Int) % 10)] 5)) :=
        run_convert_bytes_back _ 97 9 5 _ 1 [dig m] Try.underlying97 Try.underlying5 Try.underlying9 (fun j hj => by
          obtain rfl : j = 0 := by simpa using hj
          simp [Addr.add, dig_val])
      have HS : Hid (mdig (m / 10) ((⟨[dig m].toArray⟩ ++ s : ByteArray).data.toList) = D) := Lib.hid (by rw [← HD.out, mdig_succ (n := m) (by omega)]; simp)
      have hsz : (⟨[dig m].toArray⟩ : ByteArray).size = 1 := rfl
      go_wp2
      go_roundg (m / 10)
      case rel => exact ⟨m / 10, ⟨#[dig m]⟩ ++ s, rfl, by go_num, rfl, by rw [ByteArray.size_append, hsz]; omega, below_tr hb (below_al _ _), HS⟩
      case measure => have := HG.out; omega
    · go_wp2
      go_ret
      obtain rfl : m = 0 := by omega
      exact ⟨by rw [HM.out, ← HD.out, mdig_zero]; exact congrArg (fun q => Ending.returned (.string q)) (ByteArray.ext (by simp)), hb⟩
end Go.Proofs.Ytiefpllmnmmdlaa.H
