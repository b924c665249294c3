/- text.Number. -/
import Derived.Test.YtgjlncfhghhaeaaGreatDoorText4
import Derived.Shelf.Strings.SlTrimAscii
set_option linter.unusedSimpArgs false
set_option linter.unusedVariables false
namespace Go.Proofs.YtgjlncfhghhaeaaGreatDoor
open Go.RowKit
theorem ret_two {a b c d : Value} (h : a = c) (k : b = d) : Ending.returned (.tuple #[a, b]) = .returned (.tuple #[c, d]) := by rw [h, k]
theorem ret_int {k : IntKind} {a b : Int} (h : a = b) : Ending.returned (.int k a) = .returned (.int k b) := by rw [h]
theorem ascii_of_all {l : List UInt8} (h : l.all (fun b => decide (b.toNat < 128)) = true) : ∀ (j : Nat) b, l[j]? = some b → b.toNat < 128 := fun j b hj => by
  have := List.all_eq_true.1 h b (List.mem_of_getElem? hj)
  simpa using this
theorem trim_any (s cs : List UInt8) (w : World) (hs : s.length ≤ 1000000) (hc : cs.length ≤ 1000) (ha : cs.all (fun b => decide (b.toNat < 128)) = true) :
    Calls Tryz.prog 141 #[.string (S s), .string (S cs)] w (Ret (.string (S (Lib.trimS s cs))) w) :=
  Any.strings_Trim_laid Tryz.lays160 (by kernel_rfl) (S s) (S cs) w (by rw [S_size]; omega) (by rw [S_size]; omega) (ascii_of_all ha)
theorem dropWhile_nil {p : UInt8 → Bool} (l : List UInt8) : l.dropWhile p = [] ↔ ∀ x ∈ l, p x = true := by
  induction l with
  | nil => simp
  | cons a r ih =>
    rw [List.dropWhile_cons]
    cases h : p a with
    | true => simp [h, ih]
    | false => simp [h]
theorem dropWhile_all {p : UInt8 → Bool} (l : List UInt8) (h : ∀ x ∈ l.dropWhile p, p x = true) : l.dropWhile p = [] := by
  induction l with
  | nil => rfl
  | cons a r ih =>
    rw [List.dropWhile_cons] at h ⊢
    cases hp : p a with
    | true => simp only [hp, if_true] at h ⊢; exact ih h
    | false =>
      simp only [hp, Bool.false_eq_true, if_false] at h
      have := h a (by simp)
      rw [hp] at this; cases this
theorem trimS_nil (s cs : List UInt8) : Lib.trimS s cs = [] ↔ ∀ x ∈ s, x ∈ cs := by
  unfold Lib.trimS Lib.trimLeftS Lib.trimRightS
  rw [dropWhile_nil]
  constructor
  · intro h
    have h1 := dropWhile_all (p := (cs.contains ·)) s.reverse (fun x hx => h x (by simpa using hx))
    rw [dropWhile_nil] at h1
    intro x hx
    simpa using h1 x (by simpa using hx)
  · intro h x hx
    have h1 : s.reverse.dropWhile (cs.contains ·) = [] := by
      rw [dropWhile_nil]; intro y hy; simpa using h y (by simpa using hy)
    rw [h1] at hx; simp at hx
def dig10 : List UInt8 := [48, 49, 50, 51, 52, 53, 54, 55, 56, 57]
theorem dig10_mem (c : UInt8) : c ∈ dig10 ↔ Sp.digB c = true := by
  have : ∀ n : Fin 256, (UInt8.ofNat n.val ∈ dig10) ↔ Sp.digB (UInt8.ofNat n.val) = true := by decide +kernel
  have h := this ⟨c.toNat, c.toNat_lt⟩
  simpa using h
theorem trim_digits (s : List UInt8) : Lib.trimS s dig10 = [] ↔ s.all Sp.digB = true := by
  rw [trimS_nil, List.all_eq_true]
  exact ⟨fun h x hx => (dig10_mem x).1 (h x hx), fun h x hx => (dig10_mem x).2 (h x hx)⟩
theorem numV_snoc (l : List UInt8) (c : UInt8) : Sp.numV (l ++ [c]) = 10 * Sp.numV l + (c.toNat - 48) := by simp [Sp.numV]
theorem numV_lt_go (l : List UInt8) : ∀ acc : Nat, l.all Sp.digB = true → l.foldl (fun n c => 10 * n + (c.toNat - 48)) acc < (acc + 1) * 10 ^ l.length := by
  induction l with
  | nil => intro acc _; simp
  | cons c r ih =>
    intro acc h
    simp only [List.all_cons, Bool.and_eq_true] at h
    have h2 : c.toNat ≤ 57 := by
      have := h.1; simp [Sp.digB, UInt8.le_iff_toNat_le] at this; exact this.2
    have h1 := ih (10 * acc + (c.toNat - 48)) h.2
    have h3 : (10 * acc + (c.toNat - 48) + 1) * 10 ^ r.length ≤ (10 * (acc + 1)) * 10 ^ r.length := Nat.mul_le_mul_right _ (by omega)
    rw [List.foldl_cons, List.length_cons, Nat.pow_succ]
    have h4 : (10 * (acc + 1)) * 10 ^ r.length = (acc + 1) * (10 ^ r.length * 10) := by rw [Nat.mul_comm 10 (acc + 1), Nat.mul_assoc, Nat.mul_comm 10]
    omega
theorem numV_lt (l : List UInt8) (h : l.all Sp.digB = true) : Sp.numV l < 10 ^ l.length := by
  have := numV_lt_go l 0 h
  simpa [Sp.numV] using this
theorem take_snoc (s : List UInt8) (k : Nat) (hk : k < s.length) : s.take (k + 1) = s.take k ++ [s.getD k 0] := by
  rw [List.take_succ_eq_append_getElem hk]; simp [hk]
/-- The value behind k digits. -/
theorem num_step (s : List UInt8) (k : Nat) (hk : k < s.length) (h9 : s.length ≤ 9) (hd : s.all Sp.digB = true) :
    Sp.numV (s.take (k + 1)) = 10 * Sp.numV (s.take k) + ((s.getD k 0).toNat - 48) ∧ Sp.numV (s.take k) < 100000000 ∧ 48 ≤ (s.getD k 0).toNat ∧ (s.getD k 0).toNat ≤ 57 := by
  have hkk : s.getD k 0 = s[k] := by simp [hk]
  have hda : Sp.digB (s.getD k 0) = true := by rw [hkk]; exact List.all_eq_true.1 hd _ (List.getElem_mem hk)
  refine ⟨by rw [take_snoc s k hk, numV_snoc], ?_, ?_⟩
  · have h1 : (s.take k).all Sp.digB = true := by
      rw [List.all_eq_true] at hd ⊢
      exact fun x hx => hd x (List.mem_of_mem_take hx)
    have h2 := numV_lt _ h1
    have h3 : (10 : Nat) ^ (s.take k).length ≤ 10 ^ 8 := Nat.pow_le_pow_right (by omega) (by rw [List.length_take]; omega)
    omega
  · simp [Sp.digB, UInt8.le_iff_toNat_le] at hda; exact hda
def numPost (s : List UInt8) (d : Nat) (w : World) (e : Ending) (w' : World) : Prop := e = .returned (.tuple #[.int .i64 (Sp.number s d).1, .int .i64 (Sp.number s d).2]) ∧ Below w.heap.size w w'
set_option maxHeartbeats 1000000 in
theorem number_bad (s : List UInt8) (d : Nat) (w : World) (hs : s.length ≤ 1000000) (hd : d = 3 ∨ d = 9) (h : s = [] ∨ d < s.length ∨ s.all Sp.digB = false) : Calls Tryz.prog 139 #[.string (S s), .int .i64 d] w (numPost s d w) := by
  have e : Sp.number s d = (0, 5) := by
    unfold Sp.number; rw [if_pos]
    rcases h with h | h | h
    · left; simp [h]
    · right; left; rcases hd with rfl | rfl <;> omega
    · right; right; simp [h]
  unfold numPost
  rw [e]
  clear e
  by_cases hne : s = []
  · subst hne
    rcases hd with rfl | rfl
    all_goals
      go_enter Tryz.func139, Tryz.ntmps139
      go_wp2
      go_ret2
      exact ⟨rfl, Below.refl _ _⟩
  · have hne' : s.isEmpty = false := by simpa using hne
    by_cases hl : d < s.length
    · have hl' : (d : Int) < (s.length : Int) := by omega
      clear h hs
      rcases hd with rfl | rfl
      all_goals
        go_enter Tryz.func139, Tryz.ntmps139
        go_wp2
        go_ret2
        exact ⟨rfl, Below.refl _ _⟩
    · have hl' : ¬ (d : Int) < (s.length : Int) := by omega
      have hall : ¬ Lib.trimS s dig10 = [] := by
        rw [trim_digits]
        rcases h with h | h | h
        · exact absurd h hne
        · exact absurd h hl
        · simp [h]
      have htr := trim_any s dig10 w hs (by decide) (by decide)
      have hte : (Lib.trimS s dig10).isEmpty = false := by simpa using hall
      generalize Lib.trimS s dig10 = t at htr hte
      clear h hall
      rcases hd with rfl | rfl
      all_goals
        go_enter Tryz.func139, Tryz.ntmps139
        go_wp2_with (go_at_call 141; refine htr.mono ?_; rintro e w1 ⟨rfl, hb1⟩)
        go_ret2
        exact ⟨rfl, hb1⟩
set_option maxHeartbeats 1000000 in
set_option maxRecDepth 100000 in
theorem number_good (s : List UInt8) (d : Nat) (w : World) (hd : d = 3 ∨ d = 9) (hne : s ≠ []) (hl : s.length ≤ d) (hall : s.all Sp.digB = true) : Calls Tryz.prog 139 #[.string (S s), .int .i64 d] w (numPost s d w) := by
  have e : Sp.number s d = (Sp.numV s, 0) := by
    unfold Sp.number; rw [if_neg]
    rcases hd with rfl | rfl
    · simp [hne, hall]; omega
    · simp [hne, hall]; omega
  unfold numPost
  rw [e]
  clear e
  have h9 : s.length ≤ 9 := by omega
  have htr := trim_any s dig10 w (by omega) (by decide) (by decide)
  rw [(trim_digits s).2 hall] at htr
  have hne' : s.isEmpty = false := by simpa using hne
  have hl' : ¬ (d : Int) < (s.length : Int) := by omega
  have hconv := fun W => conv_bytes (P := Tryz.prog) W 9 23 5 (S s) Tryz.underlying9 Tryz.underlying23 Tryz.underlying5
  simp only [S_toList, S_size] at hconv
  have HALL := Lib.hid hall
  have HCONV := Lib.hid hconv
  clear hne hall hconv
  rcases hd with rfl | rfl
  all_goals
    go_enter Tryz.func139, Tryz.ntmps139
    go_wp2_with (go_at_call 141; refine htr.mono ?_; rintro e w1 ⟨rfl, hb1⟩; obtain ⟨c0, W, hcv, hbW, hWs, hcW, hfW⟩ := HCONV.out w1; clear hfW)
    go_loopw [6, 8, 27] (fun n _ i wr => ∃ k nk : Nat, k ≤ s.length ∧ nk ≤ 1000000000 ∧ i = .int .i64 k ∧ n = .int .i64 nk ∧ wr = W ∧ Hid (nk = Sp.numV (s.take k))) (fun _ _ i _ => s.length - (intOf i).toNat)
    case atStart => exact ⟨0, 0, Nat.zero_le _, by omega, rfl, rfl, rfl, rfl⟩
    case round =>
      obtain ⟨k, nk, hk, hnk, rfl, rfl, rfl, HK⟩ := hrel
      by_cases hlt : k < s.length
      · have hltz : (k : Int) < (s.length : Int) := by omega
        have hcell := hcW k hlt
        obtain ⟨q1, q2, q3, q4⟩ := num_step s k hlt h9 HALL.out
        rw [← HK.out] at q1 q2
        generalize s.getD k 0 = cc at hcell q1 q3 q4
        have Q1 := Lib.hid q1
        clear q1 hcW
        go_wp2
        go_roundw
        case rel => exact ⟨k + 1, 10 * nk + (cc.toNat - 48), by omega, by omega, by go_num, by rw [show ((10 * nk + (cc.toNat - 48) : Nat) : Int) = 10 * (nk : Int) + ((cc.toNat : Int) - 48) by omega], by first | rfl | trivial, Q1.out.symm⟩
        case measure => simp [intOf]; omega
      · have hltz : ¬ (k : Int) < (s.length : Int) := by omega
        go_wp2
        go_ret2
        refine ⟨ret_two ?_ rfl, below_trans' hb1 hbW⟩
        rw [HK.out, List.take_of_length_le (by omega)]; rfl
theorem number_any (s : List UInt8) (d : Nat) (w : World) (hs : s.length ≤ 1000000) (hd : d = 3 ∨ d = 9) : Calls Tryz.prog 139 #[.string (S s), .int .i64 d] w (numPost s d w) := by
  by_cases h : s = [] ∨ d < s.length ∨ s.all Sp.digB = false
  · exact number_bad s d w hs hd h
  · have h1 : s ≠ [] := fun h' => h (.inl h')
    have h2 : s.length ≤ d := by
      by_cases h' : d < s.length
      · exact absurd (.inr (.inl h')) h
      · omega
    have h3 : s.all Sp.digB = true := by
      cases h' : s.all Sp.digB with
      | true => rfl
      | false => exact absurd (.inr (.inr h')) h
    exact number_good s d w hd h1 h2 h3
end Go.Proofs.YtgjlncfhghhaeaaGreatDoor
