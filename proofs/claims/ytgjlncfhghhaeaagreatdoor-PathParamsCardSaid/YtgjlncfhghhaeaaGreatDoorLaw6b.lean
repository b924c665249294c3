/- Decimal digits as the law writes them. -/
import Derived.Test.YtgjlncfhghhaeaaGreatDoorLaw6a
import Derived.RegionTactic
set_option linter.unusedSimpArgs false
set_option linter.unusedVariables false
namespace Go.Proofs.YtgjlncfhghhaeaaGreatDoor
open Go.RowKit
theorem dig_dec {m : Nat} (h : m / 10 ≠ 0) : m / 10 < m := by omega
def dg (m : Nat) : UInt8 := UInt8.ofNat (48 + m % 10)
def dig (m : Nat) (t : List UInt8) : List UInt8 :=
  if h : m / 10 = 0 then dg m :: t else dig (m / 10) (dg m :: t)
termination_by m
decreasing_by exact dig_dec h
theorem dig_byte (m : Nat) : ((dg m).toNat : Int) = 48 + (m : Int) % 10 := by
  unfold dg
  have h : 48 + m % 10 < 256 := by omega
  rw [UInt8.toNat_ofNat_of_lt' h]; push_cast; rfl
set_option maxHeartbeats 1000000 in
set_option maxRecDepth 100000 in
theorem digits_any (N : Nat) (w : World) (hN : N < 1000000000) : Calls Tryz.prog 8 #[.int .u32 N] w (Ret (.string (S (dig N []))) w) := by
  go_enter Tryz.func8, Tryz.ntmps8
  go_wp2
  go_loopw [0, 3, 4, 5, 6, 7, 8, 9, 10, 11, 12, 13, 14, 15, 16] (fun n s _ _ _ _ _ _ _ _ _ _ _ _ _ wr => ∃ (m : Nat) (t : List UInt8), n = .int .u32 m ∧ s = .string (S t) ∧ t.length + m ≤ N ∧ Hid (dig m t = dig N []) ∧ Below w.heap.size w wr) (fun n _ _ _ _ _ _ _ _ _ _ _ _ _ _ _ => (intOf n).toNat)
  case atStart => exact ⟨N, [], rfl, rfl, by simp, Lib.hid rfl, Below.refl _ _⟩
  case round =>
    obtain ⟨m, t, rfl, rfl, hl, hd, hb⟩ := hrel
    have hc := run_convert_bytes_arg (P := Tryz.prog) (wr.alloc (.cells #[.int .u8 (48 + (m : Int) % 10)] 5)) 23 5 Tryz.underlying23 Tryz.underlying5 wr.heap.size 0 1 1 [48 + (m : Int) % 10] rfl (fun i hi => by (have h0 : i = 0 := (by omega)); subst h0; simp) 9 Tryz.underlying9
    rw [show strOfNums [48 + (m : Int) % 10] = S [dg m] by rw [← strOf_S, List.map_cons, dig_byte]; rfl] at hc
    by_cases h0 : m / 10 = 0
    · have hz : ((m : Int) / 10 == 0) = true := by rw [beq_iff_eq]; omega
      have HD := Lib.hid (show dig N [] = dg m :: t by rw [← hd.out, dig, dif_pos h0])
      clear h0
      go_wp2
      go_ret
      exact ⟨by rw [HD.out]; rfl, below_alloc hb _⟩
    · have hz : ((m : Int) / 10 == 0) = false := by rw [beq_eq_false_iff_ne]; omega
      have HD := Lib.hid (show dig (m / 10) (dg m :: t) = dig N [] by rw [← hd.out]; conv => rhs; rw [dig, dif_neg h0])
      go_wp2
      go_roundw
      case rel => exact ⟨m / 10, dg m :: t, by simp, rfl, by simp; omega, HD, below_alloc hb _⟩
      case measure => simp [intOf]; omega
end Go.Proofs.YtgjlncfhghhaeaaGreatDoor
