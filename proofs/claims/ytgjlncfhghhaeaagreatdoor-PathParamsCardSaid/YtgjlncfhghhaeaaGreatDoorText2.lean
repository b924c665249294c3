/- text.Lower, Same. -/
import Derived.Test.YtgjlncfhghhaeaaGreatDoorText1
set_option linter.unusedSimpArgs false
set_option linter.unusedVariables false
namespace Go.Proofs.YtgjlncfhghhaeaaGreatDoor
open Go.RowKit
theorem ret_str {a b : ByteArray} (h : a = b) : Ending.returned (.string a) = .returned (.string b) := by rw [h]
theorem low_step (s : List UInt8) (k : Nat) (hk : k < s.length) (j : Nat) :
    (if j < k + 1 then Sp.lowB (s.getD j 0) else s.getD j 0) = if j = k then Sp.lowB (s.getD k 0) else (if j < k then Sp.lowB (s.getD j 0) else s.getD j 0) := by
  by_cases h : j = k
  · subst h; simp
  · by_cases h2 : j < k
    · rw [if_pos (by omega), if_neg h, if_pos h2]
    · rw [if_neg (by omega), if_neg h, if_neg h2]
/-- What the row of Lower holds behind k rounds. -/
def LowRow (s : List UInt8) (w wr : World) (k : Nat) : Prop :=
  Below w.heap.size w wr ∧ w.heap.size < wr.heap.size ∧ (∀ j, j < s.length → wr.cell? ⟨w.heap.size, j, none⟩ = some (.int .u8 (if j < k then Sp.lowB (s.getD j 0) else s.getD j 0).toNat)) ∧ (∀ j, j < s.length → wr.frozen? ⟨w.heap.size, j, none⟩ = false)
theorem LowRow.keep {s : List UInt8} {w wr : World} {k : Nat} (h : LowRow s w wr k) (hk : k < s.length) (he : Sp.lowB (s.getD k 0) = s.getD k 0) : LowRow s w wr (k + 1) := by
  refine ⟨h.1, h.2.1, fun j hj => ?_, h.2.2.2⟩
  rw [h.2.2.1 j hj, low_step s k hk j]
  by_cases e : j = k
  · subst e; rw [if_pos rfl, he]; simp
  · rw [if_neg e]
theorem LowRow.put {s : List UInt8} {w wr : World} {k : Nat} (h : LowRow s w wr k) (hk : k < s.length) (n : Int) (hn : n = (Sp.lowB (s.getD k 0)).toNat) : LowRow s w (wr.setCell ⟨w.heap.size, k, none⟩ (.int .u8 n)) (k + 1) := by
  refine ⟨h.1.setCell (Nat.le_refl _) _, by simpa using h.2.1, fun j hj => ?_, fun j hj => by simpa using h.2.2.2 j hj⟩
  rw [low_step s k hk j]
  by_cases e : j = k
  · subst e
    rw [if_pos rfl, hn]
    exact World.cell?_setCell_same _ _ _ (h.2.2.1 j hj)
  · rw [if_neg e, World.cell?_setCell_other _ _ _ _ (by intro h; simp at h)]
    exact h.2.2.1 j hj
theorem lowB_hi (c : UInt8) (h1 : 65 ≤ (c.toNat : Int)) (h2 : (c.toNat : Int) ≤ 90) : ((c.toNat : Int) + 97 - 65) = (Sp.lowB c).toNat := by
  have e : Sp.lowB c = c + 32 := by unfold Sp.lowB; rw [if_pos]; simp only [UInt8.le_iff_toNat_le]; constructor <;> simp <;> omega
  rw [e, UInt8.toNat_add]; simp; omega
theorem lowB_lo (c : UInt8) (h : (c.toNat : Int) < 65 ∨ 90 < (c.toNat : Int)) : Sp.lowB c = c := by
  unfold Sp.lowB; rw [if_neg]; simp only [UInt8.le_iff_toNat_le]; simp; omega
theorem low_get (s : List UInt8) : Sp.low s = (List.range s.length).map fun j => Sp.lowB (s.getD j 0) := by
  apply List.ext_getElem
  · simp [Sp.low]
  · intro i h1 h2; simp [Sp.low] at h1 ⊢; simp [h1]
set_option maxHeartbeats 1000000 in
set_option maxRecDepth 100000 in
theorem lower_any (s : List UInt8) (w : World) (hs : s.length ≤ 1000000) : Calls Tryz.prog 45 #[.string (S s)] w (Ret (.string (S (Sp.low s))) w) := by
  obtain ⟨c0, W, hconv, hbW, hWs, hcW, hfW⟩ := conv_bytes (P := Tryz.prog) w 9 23 5 (S s) Tryz.underlying9 Tryz.underlying23 Tryz.underlying5
  rw [S_toList] at hcW
  rw [S_size] at hcW hfW hconv
  have h0 : LowRow s w W 0 := ⟨hbW, by omega, fun j hj => by rw [if_neg (by omega)]; exact hcW j hj, hfW⟩
  clear hbW hWs hcW hfW
  obtain ⟨n, hn⟩ : ∃ n, n = s.length := ⟨_, rfl⟩
  rw [← hn] at hconv hs
  have HN := Lib.hid hn; clear hn
  go_enter Tryz.func45, Tryz.ntmps45
  go_wp2
  go_loopw [4, 5, 10] (fun _ _ i wr => ∃ k : Nat, k ≤ n ∧ i = .int .i64 k ∧ LowRow s w wr k) (fun _ _ i _ => n - (intOf i).toNat)
  case atStart => exact ⟨0, Nat.zero_le _, rfl, h0⟩
  case round =>
    obtain ⟨k, hk, rfl, hr⟩ := hrel
    by_cases hlt : k < n
    · have hkl : k < s.length := by rw [← HN.out]; exact hlt
      have hltz : (k : Int) < (n : Int) := by omega
      have hcell := hr.2.2.1 k hkl
      have hfr := hr.2.2.2 k hkl
      rw [if_neg (by omega)] at hcell
      obtain ⟨cc, hcc⟩ : ∃ cc, cc = s.getD k 0 := ⟨_, rfl⟩
      rw [← hcc] at hcell
      have HC := Lib.hid hcc; clear hcc
      have hb := u8_lt cc
      by_cases hcase : 65 ≤ (cc.toNat : Int) ∧ (cc.toNat : Int) ≤ 90
      · obtain ⟨h1, h2⟩ := hcase
        have hp := hr.put hkl ((cc.toNat : Int) + 97 - 65) (by rw [lowB_hi cc h1 h2, HC.out])
        have HP := Lib.hid hp; clear hp hr
        go_wp2
        go_roundw
        case rel => exact ⟨k + 1, by omega, by go_num, HP.out⟩
        case measure => simp [intOf]; omega
      · have hp := hr.keep hkl (by rw [← HC.out]; exact lowB_lo cc (by omega))
        have hcase' : (cc.toNat : Int) < 65 ∨ 90 < (cc.toNat : Int) := by omega
        have HP := Lib.hid hp; clear hp hr
        rcases hcase' with h1 | h1
        all_goals
          go_wp2
          go_roundw
          case rel => exact ⟨k + 1, by omega, by go_num, HP.out⟩
          case measure => simp [intOf]; omega
    · have hltz : ¬ (k : Int) < (n : Int) := by omega
      have : k = n := by omega
      subst this
      have hxs : ∀ i, i < k → wr.cell? ⟨w.heap.size, 0 + i, none⟩ = some (.int .u8 (((Sp.low s).map fun c => (c.toNat : Int)).getD i 0)) := by
        intro i hi
        have hil : i < s.length := by rw [← HN.out]; exact hi
        rw [Nat.zero_add, hr.2.2.1 i hil, if_pos hi]
        simp [Sp.low, hil]
      have hback := run_convert_bytes_arg (P := Tryz.prog) wr 23 5 Tryz.underlying23 Tryz.underlying5 w.heap.size 0 k c0 ((Sp.low s).map fun c => (c.toNat : Int)) (by simp [Sp.low, HN.out]) hxs 9 Tryz.underlying9
      have hbel := hr.1
      clear hxs hr
      have e : strOfNums ((Sp.low s).map fun c => (c.toNat : Int)) = S (Sp.low s) := by
        simp [strOfNums, S, Function.comp_def]
      rw [e] at hback
      clear e
      go_wp2
      go_ret
      exact ⟨rfl, hbel⟩
end Go.Proofs.YtgjlncfhghhaeaaGreatDoor
