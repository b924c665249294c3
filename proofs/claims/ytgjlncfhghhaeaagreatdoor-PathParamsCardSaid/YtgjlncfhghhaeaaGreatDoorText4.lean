/- text.Same, Atom, DotAtom. -/
import Derived.Test.YtgjlncfhghhaeaaGreatDoorText3
import Derived.Test.YtgjlncfhghhaeaaGreatDoorFun
set_option linter.unusedSimpArgs false
set_option linter.unusedVariables false
namespace Go.Proofs.YtgjlncfhghhaeaaGreatDoor
open Go.RowKit
theorem row_of_owns {α : Type} (enc : α → Value) {w : World} {base e : Nat} {v : Value} {xs : List α} (h : w.ownsRow base e 1 v xs.length (xs.map enc)) (hl : xs.length ≤ 140737488355328) : Row enc w v xs := by
  rcases h.2 with ⟨rfl, h0⟩ | ⟨g, cap, cur, rfl, hb, hg, _⟩
  · have h0' : xs.length = 0 := by omega
    exact ⟨none, 0, by rw [h0'], hl, fun hne => absurd (List.length_eq_zero_iff.1 h0') hne⟩
  · refine ⟨some ⟨g, 0, none⟩, cap, rfl, hl, fun _ => ⟨g, 0, rfl, (Array.getElem?_eq_some_iff.1 hg).1, fun j x hj => ?_⟩⟩
    have hjl := (List.getElem?_eq_some_iff.1 hj).1
    rw [Nat.zero_add, h.cellAt j (by omega), List.getElem?_map, hj]; rfl
theorem row_conv {w W : World} {s : List UInt8} {c : Nat} (hs : s.length ≤ 1000000) (hW : W.heap.size = w.heap.size + 1) (hc : ∀ j, j < s.length → W.cell? ⟨w.heap.size, j, none⟩ = some (.int .u8 (s.getD j 0).toNat)) :
    Row encB W (.slice (some ⟨w.heap.size, 0, none⟩) s.length c) s :=
  ⟨_, _, rfl, by omega, fun _ => ⟨w.heap.size, 0, rfl, by omega, fun j x hj => by
    have hjl := (List.getElem?_eq_some_iff.1 hj).1
    rw [Nat.zero_add, hc j hjl]
    simp [List.getD, hj]⟩⟩
set_option maxHeartbeats 1000000 in
theorem same_any (s t : List UInt8) (w : World) (hs : s.length ≤ 1000000) (ht : t.length ≤ 1000000) : Calls Tryz.prog 22 #[.string (S s), .string (S t)] w (Ret (.bool (Sp.low s == Sp.low t)) w) := by
  go_enter Tryz.func22, Tryz.ntmps22
  go_wp2_with fail
  refine (lower_any s w hs).mono ?_
  rintro e w1 ⟨rfl, hb1⟩
  go_wp2_with fail
  refine (lower_any t w1 ht).mono ?_
  rintro e w2 ⟨rfl, hb2⟩
  go_wp2_with fail
  go_ret
  exact ⟨rfl, below_trans' hb1 hb2⟩
set_option maxHeartbeats 1000000 in
theorem atom_any (s : List UInt8) (w : World) (hs : s.length ≤ 1000000) (ht : AtabIs w) : Calls Tryz.prog 144 #[.string (S s)] w (Ret (.bool (Sp.atom s)) w) := by
  by_cases hne : s = []
  · subst hne
    go_enter Tryz.func144, Tryz.ntmps144
    go_wp2
    go_ret
    exact ⟨rfl, Below.refl _ _⟩
  · obtain ⟨c0, W, hconv, hbW, hWs, hcW, hfW⟩ := conv_bytes (P := Tryz.prog) w 9 23 5 (S s) Tryz.underlying9 Tryz.underlying23 Tryz.underlying5
    rw [S_toList] at hcW
    rw [S_size] at hcW hconv
    have hrow := row_conv (c := c0) hs hWs hcW
    have hcon := containsFunc_B (fun c => !Sp.atB c) 154 #[] (enters_of Tryz.func154 (by kernel_rfl) rfl) _ s W hrow (fun W' x _ hb' => Ret.of (notAtomic_b x W' ((ht.below hbW).below hb')))
    have hne' : s.isEmpty = false := by simpa using hne
    clear hrow hcW hfW
    go_enter Tryz.func144, Tryz.ntmps144
    go_wp2_with (go_at_call 80; refine hcon.mono ?_; rintro e w' ⟨rfl, hb1⟩)
    go_ret
    refine ⟨ret_bool ?_, below_trans' hbW hb1⟩
    simp [Sp.atom, hne', List.all_eq_not_any_not]
theorem atomNot_any (s : List UInt8) (w : World) (hs : s.length ≤ 1000000) (ht : AtabIs w) : Calls Tryz.prog 143 #[.string (S s)] w (Ret (.bool (!Sp.atom s)) w) := by
  go_enter Tryz.func143, Tryz.ntmps143
  go_wp2_with (go_at_call 144; refine (atom_any s _ hs ht).mono ?_; rintro e w' ⟨rfl, hb1⟩)
  go_ret
  exact ⟨rfl, hb1⟩
theorem split_len (c : UInt8) (s : List UInt8) : (Sp.split c s).length ≤ s.length + 1 ∧ ∀ p ∈ Sp.split c s, p.length ≤ s.length := by
  induction s with
  | nil => simp [Sp.split]
  | cons x xs ih =>
    unfold Sp.split
    split
    · refine ⟨by simp; omega, fun p hp => ?_⟩
      rcases List.mem_cons.1 hp with rfl | hp
      · simp
      · have := ih.2 p hp; simp; omega
    · split
      · rename_i h; rw [h] at ih; simp
      · rename_i h t e
        rw [e] at ih
        refine ⟨by have := ih.1; simp at this ⊢; omega, fun p hp => ?_⟩
        rcases List.mem_cons.1 hp with rfl | hp
        · have := ih.2 h (by simp); simp; omega
        · have := ih.2 p (by simp [hp]); simp; omega
set_option maxHeartbeats 1000000 in
theorem dotAtom_any (s : List UInt8) (w : World) (hs : s.length ≤ 900000) (ht : AtabIs w) : Calls Tryz.prog 134 #[.string (S s)] w (Ret (.bool (Sp.dotAtom s)) w) := by
  have hl := split_len 46 s
  have H := Lib.hid hl; clear hl
  have hsp := split_any s 46 w (by omega)
  go_enter Tryz.func134, Tryz.ntmps134
  go_wp2_with fail
  refine hsp.mono ?_
  rintro e w1 ⟨v, rfl, hown, hb1⟩
  have hrow := row_of_owns encS hown (by have := H.out.1; omega)
  have hcon := containsFunc_S (fun p => !Sp.atom p) 143 #[] (enters_of Tryz.func143 (by kernel_rfl) rfl) v (Sp.split 46 s) w1 hrow (fun W' x hx hb' => atomNot_any x W' (by have := H.out.2 x hx; omega) ((ht.below hb1).below hb'))
  clear hrow hown hsp
  go_wp2_with fail
  refine hcon.mono ?_
  rintro e w2 ⟨rfl, hb2⟩
  go_wp2_with fail
  go_ret
  refine ⟨ret_bool ?_, below_trans' hb1 hb2⟩
  simp [Sp.dotAtom, List.all_eq_not_any_not]
end Go.Proofs.YtgjlncfhghhaeaaGreatDoor
