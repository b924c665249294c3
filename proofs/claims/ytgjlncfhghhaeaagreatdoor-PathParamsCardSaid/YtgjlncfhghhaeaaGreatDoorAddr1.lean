/- addr.label, octet; strings.Cut and Split at one byte. -/
import Derived.Test.YtgjlncfhghhaeaaGreatDoorText6
set_option linter.unusedSimpArgs false
set_option linter.unusedVariables false
namespace Go.Proofs.YtgjlncfhghhaeaaGreatDoor
open Go.RowKit
/-- Some number lies in internal/bytealg.MaxLen. -/
def MaxIs (w : World) : Prop := ∃ m, w.cell? ⟨5, 0, none⟩ = some (.int .i64 m)
theorem MaxIs.below {w w1 : World} (h : MaxIs w) (hb : Below w.heap.size w w1) : MaxIs w1 := by
  obtain ⟨m, hm⟩ := h
  exact ⟨m, cell_below hb hm⟩
/-- strconv's table. -/
def PowIs (w : World) : Prop := Lib.TabIs Tryz.prog w "internal/strconv.uint64pow10" .u64 Lib.pow10Tab
theorem PowIs.below {w w1 : World} (h : PowIs w) (hb : Below w.heap.size w w1) : PowIs w1 := by
  have hg : Tryz.prog.globalNamed "internal/strconv.uint64pow10" = some 9 := by kernel_rfl
  have hlt : 9 < w.heap.size := by
    have h' := h
    unfold PowIs Lib.TabIs World.var? at h'
    rw [hg] at h'
    rcases Nat.lt_or_ge 9 w.heap.size with h1 | h1
    · exact h1
    · simp [Array.getElem?_eq_none h1] at h'
  exact var?_below hb hg hlt h
theorem splitK_one (c : UInt8) : ∀ (n : Nat) (l : List UInt8), l.length ≤ n → Lib.splitK [c] 0 (Lib.count l [c]) l = Sp.split c l := by
  intro n
  induction n with
  | zero => intro l hl; have : l = [] := List.length_eq_zero_iff.1 (by omega); subst this; rfl
  | succ n ih =>
    intro l hl
    rw [Lib.count_one]
    rcases indexByte_cases l c with ⟨h1, h2⟩ | ⟨i, h1, h2, h3⟩
    · rw [h2]
      cases hc : l.count c with
      | zero => rfl
      | succ k => unfold Lib.splitK; rw [Lib.index_one, h1]; rfl
    · rw [h3]
      have hsome := Lib.indexByte_some h1
      have hli : l = l.take i ++ c :: l.drop (i + 1) := by
        have : l[i] = c := by have := (List.getElem?_eq_some_iff.1 hsome.1).2; exact this
        rw [← this, ← List.drop_eq_getElem_cons h2, List.take_append_drop]
      have hc0 : (l.take i).count c = 0 := by
        rw [List.count_eq_zero]
        intro hm
        obtain ⟨k, hk⟩ := List.getElem?_of_mem hm
        rw [List.getElem?_take] at hk
        split at hk
        · rename_i hlt; exact hsome.2 k hlt hk
        · cases hk
      have hcnt : l.count c = (l.drop (i + 1)).count c + 1 := by
        conv => lhs; rw [hli]
        rw [List.count_append, hc0, List.count_cons_self]; omega
      rw [hcnt]
      unfold Lib.splitK
      rw [Lib.index_one, h1, if_neg (by simp)]
      have := ih (l.drop (i + 1)) (by simp; omega)
      rw [Lib.count_one] at this
      simp only [Int.toNat_natCast, Nat.add_zero, List.length_singleton]
      rw [this]
theorem splitB_one (c : UInt8) (l : List UInt8) : (Lib.splitB (S [c]) 0 (Lib.countB (S l) (S [c])) (S l)) = (Sp.split c l).map S := by
  have h := Lib.splitB_data (S [c]) 0 (Lib.countB (S l) (S [c])) (S l)
  rw [S_toList, S_toList] at h
  rw [← splitK_one c l.length l (Nat.le_refl _)]
  show _ = List.map S (Lib.splitK [c] 0 (Lib.countB (S l) (S [c])) l)
  rw [← h, List.map_map]
  have : (S ∘ fun x : ByteArray => x.data.toList) = id := by funext x; exact S_of x
  rw [this, List.map_id]
theorem row_alloc (w : World) (e : TypeId) (xs : List (List UInt8)) (c : Nat) (h : xs.length ≤ 140737488355328) : Row encS (w.alloc (.cells (xs.map encS).toArray e)) (.slice (some ⟨w.heap.size, 0, none⟩) xs.length c) xs :=
  ⟨_, _, rfl, h, fun _ => ⟨w.heap.size, 0, rfl, by simp, fun j x hj => by
    rw [Nat.zero_add]
    simp [World.cell?, World.alloc, -World.alloc_eq, hj]⟩⟩
theorem ssplit_any (s : List UInt8) (c : UInt8) (w : World) (hs : s.length ≤ 1000000) (hm : MaxIs w) :
    Calls Tryz.prog 115 #[.string (S s), .string (S [c])] w fun e w' => ∃ v, e = .returned v ∧ Row encS w' v (Sp.split c s) ∧ Below w.heap.size w w' := by
  obtain ⟨m, hm⟩ := hm
  have hl := split_len c s
  refine (Tryz.strings_Split (S s) (S [c]) m w (by rw [S_size]; omega) hm (by rw [S_size]; simp)).mono ?_
  rintro e w' ⟨rfl, rfl⟩
  rw [splitB_one]
  have hlen : Lib.countB (S s) (S [c]) + 1 = (Sp.split c s).length := by
    have := congrArg List.length (splitB_one c s)
    rw [List.length_map] at this
    rw [← this, Lib.splitB_all (S [c]) (by rw [S_size]; simp) 0 _ (S s) rfl]
  rw [hlen, List.map_map]
  exact ⟨_, rfl, row_alloc w 9 _ _ (by omega), (Below.refl _ _).alloc (Nat.le_refl _) _⟩
theorem cutB_spec (c : UInt8) (l : List UInt8) : (Lib.indexByte l c = -1 → Sp.cutB c l = (l, [], false)) ∧ ∀ i : Nat, Lib.indexByte l c = i → Sp.cutB c l = (l.take i, l.drop (i + 1), true) := by
  induction l with
  | nil => exact ⟨fun _ => rfl, fun i h => by simp [Lib.indexByte] at h⟩
  | cons x xs ih =>
    have hge := Lib.indexByte_ge xs c
    by_cases h : x = c
    · refine ⟨fun h1 => by simp [Lib.indexByte, h] at h1, fun i h1 => ?_⟩
      have : i = 0 := by simp [Lib.indexByte, h] at h1; omega
      subst this
      simp [Sp.cutB, h]
    · rcases indexByte_cases xs c with ⟨h1, _⟩ | ⟨j, h1, _, _⟩
      · refine ⟨fun _ => ?_, fun i h2 => ?_⟩
        · unfold Sp.cutB; rw [if_neg h, ih.1 h1]
        · simp [Lib.indexByte, h, h1] at h2
      · refine ⟨fun h2 => ?_, fun i h2 => ?_⟩
        · simp [Lib.indexByte, h, h1] at h2; omega
        · have : i = j + 1 := by simp [Lib.indexByte, h, h1] at h2; omega
          subst this
          unfold Sp.cutB; rw [if_neg h, ih.2 j h1]; simp
theorem cut_one (c : UInt8) (l : List UInt8) : Lib.cut l [c] = Sp.cutB c l := by
  unfold Lib.cut
  rw [Lib.index_one]
  rcases indexByte_cases l c with ⟨h1, _⟩ | ⟨j, h1, _, _⟩
  · rw [(cutB_spec c l).1 h1, h1, if_neg (by omega)]
  · rw [(cutB_spec c l).2 j h1, h1, if_pos (by omega)]; simp
def cutPost (r : List UInt8 × List UInt8 × Bool) (w : World) (e : Ending) (w' : World) : Prop := e = .returned (.tuple #[.string (S r.1), .string (S r.2.1), .bool r.2.2]) ∧ Below w.heap.size w w'
theorem scut_any (s : List UInt8) (c : UInt8) (w : World) (hs : s.length ≤ 1000000) (hm : MaxIs w) : Calls Tryz.prog 76 #[.string (S s), .string (S [c])] w (cutPost (Sp.cutB c s) w) := by
  obtain ⟨m, hm⟩ := hm
  refine (Tryz.strings_Cut (S s) (S [c]) m w (by rw [S_size]; omega) hm).mono ?_
  rintro e w' ⟨rfl, n, rfl⟩
  simp only [S_toList, cut_one]
  exact ⟨rfl, below_drewN (Below.refl _ _) n⟩
/-! ### label, octet -/
def hosts : List UInt8 := [97, 98, 99, 100, 101, 102, 103, 104, 105, 106, 107, 108, 109, 110, 111, 112, 113, 114, 115, 116, 117, 118, 119, 120, 121, 122, 65, 66, 67, 68, 69, 70, 71, 72, 73, 74, 75, 76, 77, 78, 79, 80, 81, 82, 83, 84, 85, 86, 87, 88, 89, 90, 48, 49, 50, 51, 52, 53, 54, 55, 56, 57, 45]
theorem bne45 (c : UInt8) : (c != 45) = ((c.toNat : Int) != 45) := by
  rw [Bool.eq_iff_iff]; simp [u8_eq]
theorem hosts_mem (c : UInt8) : c ∈ hosts ↔ Sp.hostB c = true := by
  have : ∀ n : Fin 256, (UInt8.ofNat n.val ∈ hosts) ↔ Sp.hostB (UInt8.ofNat n.val) = true := by decide +kernel
  have h := this ⟨c.toNat, c.toNat_lt⟩
  simpa using h
theorem trim_hosts (s : List UInt8) : Lib.trimS s hosts = [] ↔ s.all Sp.hostB = true := by
  rw [trimS_nil, List.all_eq_true]
  exact ⟨fun h x hx => (hosts_mem x).1 (h x hx), fun h x hx => (hosts_mem x).2 (h x hx)⟩
set_option maxHeartbeats 1000000 in
set_option maxRecDepth 100000 in
theorem label_any (s : List UInt8) (w : World) (hs : s.length ≤ 1000000) : Calls Tryz.prog 120 #[.string (S s)] w (Ret (.bool (Sp.label s)) w) := by
  by_cases hne : s = []
  · subst hne
    go_enter Tryz.func120, Tryz.ntmps120
    go_wp2
    go_ret
    exact ⟨rfl, Below.refl _ _⟩
  · have hne' : s.isEmpty = false := by simpa using hne
    have htr := trim_any s hosts w hs (by decide) (by decide)
    by_cases hall : s.all Sp.hostB = true
    · rw [(trim_hosts s).2 hall] at htr
      have hl : 0 < s.length := List.length_pos_iff.2 hne
      have HS := Lib.hid (show Sp.label s = ((s[0] != 45) && (s[s.length - 1] != 45)) by
        unfold Sp.label
        rw [hne', hall]
        cases s with
        | nil => simp at hl
        | cons a r => simp [List.getLastD_eq_getLast?, List.getLast?_eq_getElem?])
      clear hall
      go_enter Tryz.func120, Tryz.ntmps120
      go_wp2_with (go_at_call 141; refine htr.mono ?_; rintro e w1 ⟨rfl, hb1⟩)
      all_goals go_ret
      all_goals (refine ⟨ret_bool ?_, hb1⟩; rw [HS.out, bne45, bne45] <;> simp_all)
    · have hte : (Lib.trimS s hosts).isEmpty = false := by simpa [trim_hosts] using hall
      have HS := Lib.hid (show Sp.label s = false by simp [Sp.label, hall])
      generalize Lib.trimS s hosts = t at htr hte
      clear hall
      go_enter Tryz.func120, Tryz.ntmps120
      go_wp2_with (go_at_call 141; refine htr.mono ?_; rintro e w1 ⟨rfl, hb1⟩)
      go_ret
      exact ⟨ret_bool HS.out.symm, hb1⟩
theorem decDigits3 (n : Nat) (h : n < 1000) : Lib.decDigits n = Sp.digits n := by
  unfold Sp.digits
  unfold Lib.decDigits
  by_cases h1 : n < 10
  · rw [dif_pos h1, if_pos h1]
  · rw [dif_neg h1, if_neg h1]
    unfold Lib.decDigits
    by_cases h2 : n < 100
    · rw [dif_pos (by omega), if_pos h2]; rfl
    · rw [dif_neg (by omega), if_neg h2]
      unfold Lib.decDigits
      rw [dif_pos (by omega), Nat.div_div_eq_div_mul]; rfl
theorem itoa_any (n : Nat) (h : n < 1000) (w : World) (hp : PowIs w) : Calls Tryz.prog 140 #[.int .i64 n] w (Ret (.string (S (Sp.digits n))) w) := by
  refine (Tryz.strconv_Itoa n (by omega) (by omega) w hp).mono ?_
  rintro e w' ⟨rfl, k, os, rfl⟩
  refine ⟨?_, Go.Proofs.below_grown w k os⟩
  have : Lib.itoa (n : Int) = Sp.digits n := by
    unfold Lib.itoa; rw [if_neg (by omega), Int.toNat_natCast, decDigits3 n h]
  rw [this]; rfl
set_option maxHeartbeats 1000000 in
set_option maxRecDepth 100000 in
theorem octet_any (s : List UInt8) (w : World) (hs : s.length ≤ 1000000) (hp : PowIs w) : Calls Tryz.prog 119 #[.string (S s)] w (Ret (.bool (Sp.octet s)) w) := by
  have hn := number_any s 3 w hs (.inl rfl)
  by_cases hbad : s = [] ∨ 3 < s.length ∨ s.all Sp.digB = false
  · have e : Sp.number s 3 = (0, 5) := by
      unfold Sp.number; rw [if_pos]
      rcases hbad with h | h | h
      · left; simp [h]
      · right; left; omega
      · right; right; simp [h]
    have HS := Lib.hid (show Sp.octet s = false by simp [Sp.octet, e])
    unfold numPost at hn
    rw [e] at hn
    clear e hbad
    go_enter Tryz.func119, Tryz.ntmps119
    go_wp2_with (go_at_call 139; refine hn.mono ?_; rintro e w1 ⟨rfl, hb1⟩)
    go_ret
    exact ⟨ret_bool HS.out.symm, hb1⟩
  · have hall : s.all Sp.digB = true := by
      cases h' : s.all Sp.digB with
      | true => rfl
      | false => exact absurd (.inr (.inr h')) hbad
    have hl3 : s.length ≤ 3 := by
      by_cases h' : 3 < s.length
      · exact absurd (.inr (.inl h')) hbad
      · omega
    have e : Sp.number s 3 = (Sp.numV s, 0) := by
      unfold Sp.number; rw [if_neg]
      rintro (h | h | h)
      · exact hbad (.inl (by simpa using h))
      · omega
      · rw [hall] at h; simp at h
    have hlt := numV_lt s hall
    have hlt3 : (10 : Nat) ^ s.length ≤ 10 ^ 3 := Nat.pow_le_pow_right (by omega) hl3
    have HS := Lib.hid (show Sp.octet s = (decide (Sp.numV s < 256) && Sp.digits (Sp.numV s) == s) by simp [Sp.octet, e])
    unfold numPost at hn
    rw [e] at hn
    have hit := fun W => itoa_any (Sp.numV s) (by omega) W
    clear e hbad hall
    generalize Sp.numV s = n at hn hit HS hlt
    by_cases hlt256 : n < 256
    · have h2 : (n : Int) < 256 := by omega
      go_enter Tryz.func119, Tryz.ntmps119
      go_wp2_with (first | (go_at_call 139; refine hn.mono ?_; rintro e w1 ⟨rfl, hb1⟩) | (go_at_call 140; refine (hit _ (hp.below hb1)).mono ?_; rintro e w2 ⟨rfl, hb2⟩))
      go_ret
      refine ⟨ret_bool ?_, below_trans' hb1 hb2⟩
      rw [HS.out]; simp [hlt256]
    · have h2 : ¬ (n : Int) < 256 := by omega
      go_enter Tryz.func119, Tryz.ntmps119
      go_wp2_with (go_at_call 139; refine hn.mono ?_; rintro e w1 ⟨rfl, hb1⟩)
      go_ret
      refine ⟨ret_bool ?_, hb1⟩
      rw [HS.out]; simp [hlt256]
end Go.Proofs.YtgjlncfhghhaeaaGreatDoor
