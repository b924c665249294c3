/- The small predicates on a byte: what the calls hand back. -/
import Derived.Test.YtgjlncfhghhaeaaGreatDoorBase
import Derived.Test.YtgjlncfhghhaeaaGreatDoorPathSp
set_option linter.unusedSimpArgs false
set_option linter.unusedVariables false
namespace Go.Proofs.YtgjlncfhghhaeaaGreatDoor
open Go.RowKit
theorem ret_bool {a b : Bool} (h : a = b) : Ending.returned (.bool a) = .returned (.bool b) := by rw [h]
theorem u8_lt (c : UInt8) : (c.toNat : Int) ≤ 255 := by have := c.toNat_lt; omega
theorem u8_eq (c d : UInt8) : (c = d) ↔ ((c.toNat : Int) = (d.toNat : Int)) := by rw [← UInt8.toNat_inj]; omega
set_option maxHeartbeats 400000 in
theorem plain_b (c : UInt8) (w : World) : Calls Tryz.prog 91 #[.int .u8 c.toNat] w fun e w' => e = .returned (.bool (Sp.plB c)) ∧ w' = w := by
  have hb := u8_lt c
  have H := Lib.hid (show Sp.plB c = true ↔ (32 ≤ (c.toNat : Int) ∧ (c.toNat : Int) ≤ 126) by unfold Sp.plB; simp [UInt8.le_iff_toNat_le, UInt8.lt_iff_toNat_lt, u8_eq] <;> omega)
  go_enter Tryz.func91, Tryz.ntmps91
  go_wp2
  all_goals go_ret
  all_goals (refine ⟨ret_bool ?_, rfl⟩; rw [Bool.eq_iff_iff, H.out]; first | (simp <;> omega) | omega)
set_option maxHeartbeats 400000 in
theorem letter_b (c : UInt8) (w : World) : Calls Tryz.prog 78 #[.int .u8 c.toNat] w fun e w' => e = .returned (.bool (Sp.letB c)) ∧ w' = w := by
  have hb := u8_lt c
  have H := Lib.hid (show Sp.letB c = true ↔ ((97 ≤ (c.toNat : Int) ∧ (c.toNat : Int) ≤ 122) ∨ (65 ≤ (c.toNat : Int) ∧ (c.toNat : Int) ≤ 90) ∨ (48 ≤ (c.toNat : Int) ∧ (c.toNat : Int) ≤ 57) ∨ (c.toNat : Int) = 45) by unfold Sp.letB Sp.digB; simp [UInt8.le_iff_toNat_le, UInt8.lt_iff_toNat_lt, u8_eq] <;> omega)
  go_enter Tryz.func78, Tryz.ntmps78
  go_wp2
  all_goals go_ret
  all_goals (refine ⟨ret_bool ?_, rfl⟩; rw [Bool.eq_iff_iff, H.out]; first | (simp <;> omega) | omega)
set_option maxHeartbeats 400000 in
theorem bad_b (c : UInt8) (w : World) : Calls Tryz.prog 79 #[.int .u8 c.toNat] w fun e w' => e = .returned (.bool (Sp.badB c)) ∧ w' = w := by
  have hb := u8_lt c
  have H := Lib.hid (show Sp.badB c = true ↔ ((c.toNat : Int) ≤ 32 ∨ 126 < (c.toNat : Int) ∨ (c.toNat : Int) = 61) by unfold Sp.badB; simp [UInt8.le_iff_toNat_le, UInt8.lt_iff_toNat_lt, u8_eq] <;> omega)
  go_enter Tryz.func79, Tryz.ntmps79
  go_wp2
  all_goals go_ret
  all_goals (refine ⟨ret_bool ?_, rfl⟩; rw [Bool.eq_iff_iff, H.out]; first | (simp <;> omega) | omega)
set_option maxHeartbeats 400000 in
theorem odd_b (c : UInt8) (w : World) : Calls Tryz.prog 77 #[.int .u8 c.toNat] w fun e w' => e = .returned (.bool (!Sp.letB c)) ∧ w' = w := by
  go_enter Tryz.func77, Tryz.ntmps77
  go_wp2_with (go_at_call 78; refine (letter_b c _).mono ?_; rintro e w' ⟨rfl, rfl⟩)
  go_ret
  exact ⟨rfl, rfl⟩
/-- The table of the letters of atoms. -/
def AtabIs (w : World) : Prop := w.cell? ⟨8, 0, none⟩ = some (.int .u32 0) ∧ w.cell? ⟨8, 1, none⟩ = some (.int .u32 2751442170) ∧ w.cell? ⟨8, 2, none⟩ = some (.int .u32 3355443198) ∧ w.cell? ⟨8, 3, none⟩ = some (.int .u32 2147483647)
theorem cell_below {w w1 : World} (hb : Below w.heap.size w w1) {a : Addr} {v : Value} (h : w.cell? a = some v) : w1.cell? a = some v := (hb.cell (World.block_lt_of_cell? w a h)).trans h
theorem AtabIs.below {w w1 : World} (h : AtabIs w) (hb : Below w.heap.size w w1) : AtabIs w1 := ⟨cell_below hb h.1, cell_below hb h.2.1, cell_below hb h.2.2.1, cell_below hb h.2.2.2⟩
def atab (k : Nat) : Int := [(0 : Int), 2751442170, 3355443198, 2147483647].getD k 0
theorem atab_bits : ∀ n : Fin 128, (bits BinOp.and IntKind.u32 (atab (n.val / 32) / 2 ^ (n.val % 32)) 1 == 1) = Sp.atB (UInt8.ofNat n.val) := by decide +kernel
theorem atab_cell {w : World} (ht : AtabIs w) (k : Nat) (hk : k < 4) : w.cell? ⟨8, k, none⟩ = some (.int .u32 (atab k)) ∧ 0 ≤ atab k := by
  obtain ⟨h0, h1, h2, h3⟩ := ht
  match k, hk with
  | 0, _ => exact ⟨h0, by decide⟩
  | 1, _ => exact ⟨h1, by decide⟩
  | 2, _ => exact ⟨h2, by decide⟩
  | 3, _ => exact ⟨h3, by decide⟩
set_option maxHeartbeats 400000 in
set_option maxRecDepth 100000 in
theorem atomic_b (c : UInt8) (w : World) (ht : AtabIs w) : Calls Tryz.prog 155 #[.int .u8 c.toNat] w fun e w' => e = .returned (.bool (Sp.atB c)) ∧ w' = w := by
  have hb := u8_lt c
  by_cases h128 : (c.toNat : Int) < 128
  · have hq : c.toNat / 32 < 4 := by omega
    obtain ⟨v, hv, hvb, hve⟩ : ∃ v : Int, w.cell? ⟨8, c.toNat / 32, none⟩ = some (.int .u32 v) ∧ 0 ≤ v ∧ Hid (v = atab (c.toNat / 32)) := ⟨_, (atab_cell ht _ hq).1, (atab_cell ht _ hq).2, rfl⟩
    clear ht
    go_enter Tryz.func155, Tryz.ntmps155
    go_wp2
    go_ret
    refine ⟨ret_bool ?_, rfl⟩
    have := atab_bits ⟨c.toNat, by omega⟩
    rw [show UInt8.ofNat (⟨c.toNat, by omega⟩ : Fin 128).val = c by simp] at this
    rw [hve.out]; exact this
  · go_enter Tryz.func155, Tryz.ntmps155
    go_wp2
    go_ret
    refine ⟨ret_bool ?_, rfl⟩
    unfold Sp.atB
    rw [show decide (c < 128) = false by simp [UInt8.le_iff_toNat_le]; omega]
    rfl
set_option maxHeartbeats 400000 in
theorem notAtomic_b (c : UInt8) (w : World) (ht : AtabIs w) : Calls Tryz.prog 154 #[.int .u8 c.toNat] w fun e w' => e = .returned (.bool (!Sp.atB c)) ∧ w' = w := by
  go_enter Tryz.func154, Tryz.ntmps154
  go_wp2_with (go_at_call 155; refine (atomic_b c _ ht).mono ?_; rintro e w' ⟨rfl, rfl⟩)
  go_ret
  exact ⟨rfl, rfl⟩
end Go.Proofs.YtgjlncfhghhaeaaGreatDoor
